/- What isEdge of the program reckons (plain). -/
import Derived.Test.YthdaoadleeelnaaPts
import Derived.Test.YthdaoadleeelnaaCmp
namespace Go.Proofs.Ythdaoadleeelnaa
open Go.ChangeShapes Go.WideShapes Go.ChangeAt Go.RowKit
attribute [local go_sem ↓] Go.wp_at_zero Go.wp_at_succ
set_option linter.unusedVariables false

/-- The last mark that bounds a border from below, among some half planes. -/
def LastLow (h : Hp) (S : List Hp) (f : Option Hp) : Prop :=
  match f with
  | none => ∀ g ∈ S, ¬ crH h g < 0
  | some p => p ∈ S ∧ crH h p < 0 ∧ ∀ g ∈ S, crH h g < 0 → mkN h g * pD h p ≤ mkN h p * pD h g
/-- The first mark that bounds it from above. -/
def FirstUp (h : Hp) (S : List Hp) (f : Option Hp) : Prop :=
  match f with
  | none => ∀ g ∈ S, ¬ 0 < crH h g
  | some p => p ∈ S ∧ 0 < crH h p ∧ ∀ g ∈ S, 0 < crH h g → mkN h p * pD h g ≤ mkN h g * pD h p

theorem low_skip {h : Hp} {S : List Hp} {f : Option Hp} {g : Hp} (hf : LastLow h S f) (hg : ¬ crH h g < 0) : LastLow h (S ++ [g]) f := by
  cases f with
  | none =>
    intro x hx
    rw [List.mem_append, List.mem_singleton] at hx
    rcases hx with hx | rfl
    · exact hf x hx
    · exact hg
  | some p =>
    refine ⟨List.mem_append_left _ hf.1, hf.2.1, fun x hx hc => ?_⟩
    rw [List.mem_append, List.mem_singleton] at hx
    rcases hx with hx | rfl
    · exact hf.2.2 x hx hc
    · exact absurd hc hg

theorem low_first {h : Hp} {S : List Hp} {g : Hp} (hf : LastLow h S none) (hg : crH h g < 0) : LastLow h (S ++ [g]) (some g) := by
  refine ⟨List.mem_append_right _ (List.mem_singleton_self _), hg, fun x hx hc => ?_⟩
  rw [List.mem_append, List.mem_singleton] at hx
  rcases hx with hx | rfl
  · exact absurd hc (hf x hx)
  · exact Int.le_refl _

theorem low_keep {h : Hp} {S : List Hp} {p g : Hp} (hf : LastLow h S (some p)) (hle : mkN h g * pD h p ≤ mkN h p * pD h g) : LastLow h (S ++ [g]) (some p) := by
  refine ⟨List.mem_append_left _ hf.1, hf.2.1, fun x hx hc => ?_⟩
  rw [List.mem_append, List.mem_singleton] at hx
  rcases hx with hx | rfl
  · exact hf.2.2 x hx hc
  · exact hle

theorem low_new {h : Hp} {S : List Hp} {p g : Hp} (hf : LastLow h S (some p)) (hg : crH h g < 0) (hle : mkN h p * pD h g ≤ mkN h g * pD h p) : LastLow h (S ++ [g]) (some g) := by
  refine ⟨List.mem_append_right _ (List.mem_singleton_self _), hg, fun x hx hc => ?_⟩
  rw [List.mem_append, List.mem_singleton] at hx
  rcases hx with hx | rfl
  · exact fle_trans (pD_pos (by omega)) (pD_pos (by have := hf.2.1; omega)) (pD_pos (by omega)) (hf.2.2 x hx hc) hle
  · exact Int.le_refl _

theorem up_skip {h : Hp} {S : List Hp} {f : Option Hp} {g : Hp} (hf : FirstUp h S f) (hg : ¬ 0 < crH h g) : FirstUp h (S ++ [g]) f := by
  cases f with
  | none =>
    intro x hx
    rw [List.mem_append, List.mem_singleton] at hx
    rcases hx with hx | rfl
    · exact hf x hx
    · exact hg
  | some p =>
    refine ⟨List.mem_append_left _ hf.1, hf.2.1, fun x hx hc => ?_⟩
    rw [List.mem_append, List.mem_singleton] at hx
    rcases hx with hx | rfl
    · exact hf.2.2 x hx hc
    · exact absurd hc hg

theorem up_first {h : Hp} {S : List Hp} {g : Hp} (hf : FirstUp h S none) (hg : 0 < crH h g) : FirstUp h (S ++ [g]) (some g) := by
  refine ⟨List.mem_append_right _ (List.mem_singleton_self _), hg, fun x hx hc => ?_⟩
  rw [List.mem_append, List.mem_singleton] at hx
  rcases hx with hx | rfl
  · exact absurd hc (hf x hx)
  · exact Int.le_refl _

theorem up_keep {h : Hp} {S : List Hp} {p g : Hp} (hf : FirstUp h S (some p)) (hle : mkN h p * pD h g ≤ mkN h g * pD h p) : FirstUp h (S ++ [g]) (some p) := by
  refine ⟨List.mem_append_left _ hf.1, hf.2.1, fun x hx hc => ?_⟩
  rw [List.mem_append, List.mem_singleton] at hx
  rcases hx with hx | rfl
  · exact hf.2.2 x hx hc
  · exact hle

theorem up_new {h : Hp} {S : List Hp} {p g : Hp} (hf : FirstUp h S (some p)) (hg : 0 < crH h g) (hle : mkN h g * pD h p ≤ mkN h p * pD h g) : FirstUp h (S ++ [g]) (some g) := by
  refine ⟨List.mem_append_right _ (List.mem_singleton_self _), hg, fun x hx hc => ?_⟩
  rw [List.mem_append, List.mem_singleton] at hx
  rcases hx with hx | rfl
  · exact fle_trans (pD_pos (by omega)) (pD_pos (by have := hf.2.1; omega)) (pD_pos (by omega)) hle (hf.2.2 x hx hc)
  · exact Int.le_refl _

/-- What isEdge answers at the end. -/
def edgeV (h : Hp) (f t : Option Hp) : Bool :=
  match f, t with
  | some p, some q => decide (mkN h p * pD h q < mkN h q * pD h p)
  | _, _ => false

theorem edge_end {h : Hp} {L : List Hp} {f t : Option Hp} (hf : LastLow h L f) (ht : FirstUp h L t) : edgeV h f t = true ↔ EdgeB h L := by
  cases f with
  | none => exact ⟨(fun e => by simp [edgeV] at e), fun ⟨⟨g, hg, hc⟩, _⟩ => absurd hc (hf g hg)⟩
  | some p =>
    cases t with
    | none => exact ⟨(fun e => by simp [edgeV] at e), fun ⟨_, ⟨g, hg, hc⟩, _⟩ => absurd hc (ht g hg)⟩
    | some q =>
      have dp : 0 < pD h p := pD_pos (by have := hf.2.1; omega)
      have dq : 0 < pD h q := pD_pos (by have := ht.2.1; omega)
      unfold edgeV
      rw [decide_eq_true_iff]
      constructor
      · intro e
        refine ⟨⟨p, hf.1, hf.2.1⟩, ⟨q, ht.1, ht.2.1⟩, fun g hg g' hg' hc hc' => ?_⟩
        have d1 : 0 < pD h g := pD_pos (by omega)
        have d2 : 0 < pD h g' := pD_pos (by omega)
        unfold fltH
        exact flt_of_le_lt d1 dp d2 (hf.2.2 g hg hc) (flt_of_lt_le dp dq d2 e (ht.2.2 g' hg' hc'))
      · intro ⟨_, _, e⟩
        exact e p hf.1 q ht.1 hf.2.1 ht.2.1

/-- No border of the others runs along without room. -/
def NoVd (h : Hp) (S : List Hp) : Prop := ∀ g ∈ S, g ≠ h → crH h g = 0 → 0 < roomH g h

theorem noVd_step {h : Hp} {S : List Hp} {g : Hp} (hS : NoVd h S) (hg : g ≠ h → crH h g = 0 → 0 < roomH g h) : NoVd h (S ++ [g]) := fun x hx hne hc => by
  rw [List.mem_append, List.mem_singleton] at hx
  rcases hx with hx | rfl
  · exact hS x hx hne hc
  · exact hg hne hc

theorem sgn_le (x : Int) : sgnV x ≤ 0 ↔ x ≤ 0 := by unfold sgnV; repeat' split; all_goals omega

theorem sgn_ge (x : Int) : 0 ≤ sgnV x ↔ 0 ≤ x := by unfold sgnV; repeat' split; all_goals omega

theorem sgn_lt (x : Int) : sgnV x < 0 ↔ x < 0 := by unfold sgnV; repeat' split; all_goals omega

theorem mk_bounds {h g : Hp} (hh : okH h = true) (hg : okH g = true) : (-1000000000000000000 ≤ h.1 * pY h g ∧ h.1 * pY h g ≤ 1000000000000000000) ∧ (-1000000000000000000 ≤ h.2.1 * pX h g ∧ h.2.1 * pX h g ≤ 1000000000000000000) := by
  obtain ⟨⟨a1, a2⟩, ⟨b1, b2⟩, _⟩ := okH_bounds hh
  obtain ⟨⟨x1, x2⟩, ⟨y1, y2⟩, _⟩ := pt_bounds hh hg
  have m1 := mul_range h.1 (pY h g) 50000 20000000000000 (by omega) (by omega) (by omega) (by omega)
  have m2 := mul_range h.2.1 (pX h g) 50000 20000000000000 (by omega) (by omega) (by omega) (by omega)
  omega

end Go.Proofs.Ythdaoadleeelnaa
