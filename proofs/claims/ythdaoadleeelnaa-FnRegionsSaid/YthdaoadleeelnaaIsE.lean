/- What isEdge of the program reckons (plain). isEdge of the program. isEdge of the program: the walk. -/
import Derived.Test.YthdaoadleeelnaaPts
import Derived.Test.YthdaoadleeelnaaCmp
import Derived.Test.YthdaoadleeelnaaNrw
import Derived.Test.YthdaoadleeelnaaRn8
import Derived.Test.YthdaoadleeelnaaCross2
import Derived.Test.YthdaoadleeelnaaRn9
namespace Go.Proofs.Ythdaoadleeelnaa
open Go.ChangeShapes Go.WideShapes Go.ChangeAt Go.RowKit
attribute [local go_sem ↓] Go.wp_at_zero Go.wp_at_succ
set_option linter.unusedVariables false

/-- The last mark that bounds a border from below, among some half planes. -/
def LastLow (h : Hp) (S : List Hp) (f : Option Hp) : Prop :=
  match f with
  | none => ∀ g ∈ S, ¬ crH h g < 0
  | some p => p ∈ S ∧ crH h p < 0 ∧ ∀ g ∈ S, crH h g < 0 → mkN h g * pD h p ≤ mkN h p * pD h g
/-- The first mark that bounds it from above. -/
def FirstUp (h : Hp) (S : List Hp) (f : Option Hp) : Prop :=
  match f with
  | none => ∀ g ∈ S, ¬ 0 < crH h g
  | some p => p ∈ S ∧ 0 < crH h p ∧ ∀ g ∈ S, 0 < crH h g → mkN h p * pD h g ≤ mkN h g * pD h p

theorem low_skip {h : Hp} {S : List Hp} {f : Option Hp} {g : Hp} (hf : LastLow h S f) (hg : ¬ crH h g < 0) : LastLow h (S ++ [g]) f := by
  cases f with
  | none =>
    intro x hx
    rw [List.mem_append, List.mem_singleton] at hx
    rcases hx with hx | rfl
    · exact hf x hx
    · exact hg
  | some p =>
    refine ⟨List.mem_append_left _ hf.1, hf.2.1, fun x hx hc => ?_⟩
    rw [List.mem_append, List.mem_singleton] at hx
    rcases hx with hx | rfl
    · exact hf.2.2 x hx hc
    · exact absurd hc hg

theorem low_first {h : Hp} {S : List Hp} {g : Hp} (hf : LastLow h S none) (hg : crH h g < 0) : LastLow h (S ++ [g]) (some g) := by
  refine ⟨List.mem_append_right _ (List.mem_singleton_self _), hg, fun x hx hc => ?_⟩
  rw [List.mem_append, List.mem_singleton] at hx
  rcases hx with hx | rfl
  · exact absurd hc (hf x hx)
  · exact Int.le_refl _

theorem low_keep {h : Hp} {S : List Hp} {p g : Hp} (hf : LastLow h S (some p)) (hle : mkN h g * pD h p ≤ mkN h p * pD h g) : LastLow h (S ++ [g]) (some p) := by
  refine ⟨List.mem_append_left _ hf.1, hf.2.1, fun x hx hc => ?_⟩
  rw [List.mem_append, List.mem_singleton] at hx
  rcases hx with hx | rfl
  · exact hf.2.2 x hx hc
  · exact hle

theorem low_new {h : Hp} {S : List Hp} {p g : Hp} (hf : LastLow h S (some p)) (hg : crH h g < 0) (hle : mkN h p * pD h g ≤ mkN h g * pD h p) : LastLow h (S ++ [g]) (some g) := by
  refine ⟨List.mem_append_right _ (List.mem_singleton_self _), hg, fun x hx hc => ?_⟩
  rw [List.mem_append, List.mem_singleton] at hx
  rcases hx with hx | rfl
  · exact fle_trans (pD_pos (by omega)) (pD_pos (by have := hf.2.1; omega)) (pD_pos (by omega)) (hf.2.2 x hx hc) hle
  · exact Int.le_refl _

theorem up_skip {h : Hp} {S : List Hp} {f : Option Hp} {g : Hp} (hf : FirstUp h S f) (hg : ¬ 0 < crH h g) : FirstUp h (S ++ [g]) f := by
  cases f with
  | none =>
    intro x hx
    rw [List.mem_append, List.mem_singleton] at hx
    rcases hx with hx | rfl
    · exact hf x hx
    · exact hg
  | some p =>
    refine ⟨List.mem_append_left _ hf.1, hf.2.1, fun x hx hc => ?_⟩
    rw [List.mem_append, List.mem_singleton] at hx
    rcases hx with hx | rfl
    · exact hf.2.2 x hx hc
    · exact absurd hc hg

theorem up_first {h : Hp} {S : List Hp} {g : Hp} (hf : FirstUp h S none) (hg : 0 < crH h g) : FirstUp h (S ++ [g]) (some g) := by
  refine ⟨List.mem_append_right _ (List.mem_singleton_self _), hg, fun x hx hc => ?_⟩
  rw [List.mem_append, List.mem_singleton] at hx
  rcases hx with hx | rfl
  · exact absurd hc (hf x hx)
  · exact Int.le_refl _

theorem up_keep {h : Hp} {S : List Hp} {p g : Hp} (hf : FirstUp h S (some p)) (hle : mkN h p * pD h g ≤ mkN h g * pD h p) : FirstUp h (S ++ [g]) (some p) := by
  refine ⟨List.mem_append_left _ hf.1, hf.2.1, fun x hx hc => ?_⟩
  rw [List.mem_append, List.mem_singleton] at hx
  rcases hx with hx | rfl
  · exact hf.2.2 x hx hc
  · exact hle

theorem up_new {h : Hp} {S : List Hp} {p g : Hp} (hf : FirstUp h S (some p)) (hg : 0 < crH h g) (hle : mkN h g * pD h p ≤ mkN h p * pD h g) : FirstUp h (S ++ [g]) (some g) := by
  refine ⟨List.mem_append_right _ (List.mem_singleton_self _), hg, fun x hx hc => ?_⟩
  rw [List.mem_append, List.mem_singleton] at hx
  rcases hx with hx | rfl
  · exact fle_trans (pD_pos (by omega)) (pD_pos (by have := hf.2.1; omega)) (pD_pos (by omega)) hle (hf.2.2 x hx hc)
  · exact Int.le_refl _

/-- What isEdge answers at the end. -/
def edgeV (h : Hp) (f t : Option Hp) : Bool :=
  match f, t with
  | some p, some q => decide (mkN h p * pD h q < mkN h q * pD h p)
  | _, _ => false

theorem edge_end {h : Hp} {L : List Hp} {f t : Option Hp} (hf : LastLow h L f) (ht : FirstUp h L t) : edgeV h f t = true ↔ EdgeB h L := by
  cases f with
  | none => exact ⟨(fun e => by simp [edgeV] at e), fun ⟨⟨g, hg, hc⟩, _⟩ => absurd hc (hf g hg)⟩
  | some p =>
    cases t with
    | none => exact ⟨(fun e => by simp [edgeV] at e), fun ⟨_, ⟨g, hg, hc⟩, _⟩ => absurd hc (ht g hg)⟩
    | some q =>
      have dp : 0 < pD h p := pD_pos (by have := hf.2.1; omega)
      have dq : 0 < pD h q := pD_pos (by have := ht.2.1; omega)
      unfold edgeV
      rw [decide_eq_true_iff]
      constructor
      · intro e
        refine ⟨⟨p, hf.1, hf.2.1⟩, ⟨q, ht.1, ht.2.1⟩, fun g hg g' hg' hc hc' => ?_⟩
        have d1 : 0 < pD h g := pD_pos (by omega)
        have d2 : 0 < pD h g' := pD_pos (by omega)
        unfold fltH
        exact flt_of_le_lt d1 dp d2 (hf.2.2 g hg hc) (flt_of_lt_le dp dq d2 e (ht.2.2 g' hg' hc'))
      · intro ⟨_, _, e⟩
        exact e p hf.1 q ht.1 hf.2.1 ht.2.1

/-- No border of the others runs along without room. -/
def NoVd (h : Hp) (S : List Hp) : Prop := ∀ g ∈ S, g ≠ h → crH h g = 0 → 0 < roomH g h

theorem noVd_step {h : Hp} {S : List Hp} {g : Hp} (hS : NoVd h S) (hg : g ≠ h → crH h g = 0 → 0 < roomH g h) : NoVd h (S ++ [g]) := fun x hx hne hc => by
  rw [List.mem_append, List.mem_singleton] at hx
  rcases hx with hx | rfl
  · exact hS x hx hne hc
  · exact hg hne hc

theorem sgn_le (x : Int) : sgnV x ≤ 0 ↔ x ≤ 0 := by unfold sgnV; repeat' split; all_goals omega

theorem sgn_ge (x : Int) : 0 ≤ sgnV x ↔ 0 ≤ x := by unfold sgnV; repeat' split; all_goals omega

theorem sgn_lt (x : Int) : sgnV x < 0 ↔ x < 0 := by unfold sgnV; repeat' split; all_goals omega

theorem mk_bounds {h g : Hp} (hh : okH h = true) (hg : okH g = true) : (-1000000000000000000 ≤ h.1 * pY h g ∧ h.1 * pY h g ≤ 1000000000000000000) ∧ (-1000000000000000000 ≤ h.2.1 * pX h g ∧ h.2.1 * pX h g ≤ 1000000000000000000) := by
  obtain ⟨⟨a1, a2⟩, ⟨b1, b2⟩, _⟩ := okH_bounds hh
  obtain ⟨⟨x1, x2⟩, ⟨y1, y2⟩, _⟩ := pt_bounds hh hg
  have m1 := mul_range h.1 (pY h g) 50000 20000000000000 (by omega) (by omega) (by omega) (by omega)
  have m2 := mul_range h.2.1 (pX h g) 50000 20000000000000 (by omega) (by omega) (by omega) (by omega)
  omega

/-- A mark of a kept half plane. -/
def MkIs (h : Hp) (f : Option Hp) (n d : Int) (i : Bool) : Prop :=
  match f with
  | none => i = false ∧ n = 0
  | some p => n = mkN h p ∧ d = pD h p ∧ i = true

theorem mkN_bounds {h g : Hp} (hh : okH h = true) (hg : okH g = true) : -9223372036854775808 ≤ mkN h g ∧ mkN h g ≤ 9223372036854775807 := by
  have := mk_bounds hh hg
  unfold mkN; omega

theorem mk_low {h : Hp} {S : List Hp} {f : Option Hp} {n d : Int} {i : Bool} (hm : MkIs h f n d i) (hf : LastLow h S f) (hh : okH h = true) (hS : ∀ x ∈ S, okH x = true) : (-9223372036854775808 ≤ n ∧ n ≤ 9223372036854775807) ∧ (i = true → 1 ≤ d ∧ d ≤ 9223372036854775807) := by
  cases f with
  | none => obtain ⟨e1, e2⟩ := hm; subst e1 e2; exact ⟨by omega, fun e => by cases e⟩
  | some p =>
    obtain ⟨e1, e2, e3⟩ := hm
    subst e1 e2
    have hp := hS p hf.1
    have h1 := mkN_bounds hh hp
    have h2 := (pt_bounds hh hp).2.2
    have h3 := pD_pos (h := h) (g := p) (by have := hf.2.1; omega)
    exact ⟨h1, fun _ => by omega⟩

theorem mk_up {h : Hp} {S : List Hp} {f : Option Hp} {n d : Int} {i : Bool} (hm : MkIs h f n d i) (hf : FirstUp h S f) (hh : okH h = true) (hS : ∀ x ∈ S, okH x = true) : (-9223372036854775808 ≤ n ∧ n ≤ 9223372036854775807) ∧ (i = true → 1 ≤ d ∧ d ≤ 9223372036854775807) := by
  cases f with
  | none => obtain ⟨e1, e2⟩ := hm; subst e1 e2; exact ⟨by omega, fun e => by cases e⟩
  | some p =>
    obtain ⟨e1, e2, e3⟩ := hm
    subst e1 e2
    have hp := hS p hf.1
    have h1 := mkN_bounds hh hp
    have h2 := (pt_bounds hh hp).2.2
    have h3 := pD_pos (h := h) (g := p) (by have := hf.2.1; omega)
    exact ⟨h1, fun _ => by omega⟩

theorem low_stays {h g : Hp} {S : List Hp} {f : Option Hp} {n d N D : Int} {i : Bool} (hm : MkIs h f n d i) (hf : LastLow h S f) (hN : mkN h g = N) (hD : pD h g = D) (hi : i = true) (hs : stays true (cmpS N D n d) = true) : LastLow h (S ++ [g]) f ∧ MkIs h f n d true := by
  subst hN; subst hD
  cases f with
  | none => rw [hm.1] at hi; cases hi
  | some p =>
    obtain ⟨e1, e2, e3⟩ := hm
    subst e1 e2
    unfold stays cmpS at hs
    simp only [if_true, decide_eq_true_eq, sgn_le] at hs
    exact ⟨low_keep hf (by omega), rfl, rfl, rfl⟩

theorem low_turns {h g : Hp} {S : List Hp} {f : Option Hp} {n d N D : Int} {i : Bool} (hm : MkIs h f n d i) (hf : LastLow h S f) (hg : crH h g < 0) (hN : mkN h g = N) (hD : pD h g = D) (hi : i = false ∨ stays true (cmpS N D n d) = false) : LastLow h (S ++ [g]) (some g) ∧ MkIs h (some g) N D true := by
  refine ⟨?_, hN.symm, hD.symm, rfl⟩
  subst hN; subst hD
  cases f with
  | none => exact low_first hf hg
  | some p =>
    obtain ⟨e1, e2, e3⟩ := hm
    subst e1 e2
    rw [e3] at hi
    rcases hi with hi | hi
    · cases hi
    · unfold stays cmpS at hi
      simp only [if_true, decide_eq_false_iff_not, sgn_le] at hi
      exact low_new hf hg (by omega)

theorem up_stays {h g : Hp} {S : List Hp} {f : Option Hp} {n d N D : Int} {i : Bool} (hm : MkIs h f n d i) (hf : FirstUp h S f) (hN : mkN h g = N) (hD : pD h g = D) (hi : i = true) (hs : stays false (cmpS N D n d) = true) : FirstUp h (S ++ [g]) f ∧ MkIs h f n d true := by
  subst hN; subst hD
  cases f with
  | none => rw [hm.1] at hi; cases hi
  | some p =>
    obtain ⟨e1, e2, e3⟩ := hm
    subst e1 e2
    unfold stays cmpS at hs
    simp only [Bool.false_eq_true, if_false, decide_eq_true_eq, sgn_ge] at hs
    exact ⟨up_keep hf (by omega), rfl, rfl, rfl⟩

theorem up_turns {h g : Hp} {S : List Hp} {f : Option Hp} {n d N D : Int} {i : Bool} (hm : MkIs h f n d i) (hf : FirstUp h S f) (hg : 0 < crH h g) (hN : mkN h g = N) (hD : pD h g = D) (hi : i = false ∨ stays false (cmpS N D n d) = false) : FirstUp h (S ++ [g]) (some g) ∧ MkIs h (some g) N D true := by
  refine ⟨?_, hN.symm, hD.symm, rfl⟩
  subst hN; subst hD
  cases f with
  | none => exact up_first hf hg
  | some p =>
    obtain ⟨e1, e2, e3⟩ := hm
    subst e1 e2
    rw [e3] at hi
    rcases hi with hi | hi
    · cases hi
    · unfold stays cmpS at hi
      simp only [Bool.false_eq_true, if_false, decide_eq_false_iff_not, sgn_ge] at hi
      exact up_new hf hg (by omega)

theorem crossing_is {a b c a' b' c' X Y D q : Int} (hg : okH (a, b, c) = true) (hh : okH (a', b', c') = true) (hq : crH (a, b, c) (a', b', c') = q) (h0 : q ≠ 0) (hX : pX (a, b, c) (a', b', c') = X) (hY : pY (a, b, c) (a', b', c') = Y) (hD : pD (a, b, c) (a', b', c') = D) (w : World) :
    Calls Try.prog 93 #[.agg #[.int .i64 a, .int .i64 b, .int .i64 c], .agg #[.int .i64 a', .int .i64 b', .int .i64 c']] w fun e w' => e = .returned (.tuple #[.int .i64 X, .int .i64 Y, .int .i64 D, .bool true]) ∧ Below w.heap.size w w' := by
  subst hX; subst hY; subst hD; subst hq
  have e0 : cxD a b c a' b' c' = crH (a, b, c) (a', b', c') := by unfold cxD crH; simp only; rw [Int.mul_comm b a']
  have es : ∀ n, cxS a b c a' b' c' n = pS (a, b, c) (a', b', c') n := by intro n; unfold cxS pS; rw [e0]
  have := crossing_any a b c a' b' c' w hg hh
  rw [es, es, es, e0, decide_eq_true h0] at this
  exact this

theorem crossH_is {a b c a' b' c' q : Int} (hg : okH (a, b, c) = true) (hh : okH (a', b', c') = true) (hq : crH (a, b, c) (a', b', c') = q) (w : World) :
    Calls Try.prog 91 #[.agg #[.int .i64 a, .int .i64 b, .int .i64 c], .agg #[.int .i64 a', .int .i64 b', .int .i64 c']] w fun e w' => e = .returned (.int .i64 q) ∧ Below w.heap.size w w' := by
  have b1 := okH_bounds hg
  have b2 := okH_bounds hh
  have e : crV a b a' b' = q := hq
  rw [← e]; exact cross_any a b c a' b' c' w b1.1 b1.2.1 b2.1 b2.2.1

theorem roomH_is {a b c a' b' c' : Int} {v : Bool} (hg : okH (a, b, c) = true) (hh : okH (a', b', c') = true) (hv : decide (0 < roomH (a, b, c) (a', b', c')) = v) (w : World) :
    Calls Try.prog 92 #[.agg #[.int .i64 a, .int .i64 b, .int .i64 c], .agg #[.int .i64 a', .int .i64 b', .int .i64 c']] w fun e w' => e = .returned (.bool v) ∧ Below w.heap.size w w' := by
  have z1 := szV_range (a := a) (b := b) (c := c) hg
  have z2 := szV_range (a := a') (b := b') (c := c') hh
  have e : decide (0 < c * szV a' b' + c' * szV a b) = v := hv
  rw [← e]
  exact leavesRoom_any rfl rfl hg hh z1.1 z1.2 z2.1 z2.2 w

theorem MarkAt.with_ {w : World} {mb : Nat} {n d : Int} {i : Bool} (c0 : w.cell? ⟨mb, 0, none⟩ = some (.int .i64 n)) (c1 : w.cell? ⟨mb, 1, none⟩ = some (.int .i64 d)) (c2 : w.cell? ⟨mb, 2, none⟩ = some (.bool i)) (z0 : w.frozen? ⟨mb, 0, none⟩ = false) (z1 : w.frozen? ⟨mb, 1, none⟩ = false) (z2 : w.frozen? ⟨mb, 2, none⟩ = false) (hl : mb < w.heap.size) : MarkAt w mb n d i := ⟨⟨c0, c1, c2⟩, ⟨z0, z1, z2⟩, hl⟩

theorem take_app {α : Type} {L : List α} {k : Nat} (hk : k < L.length) : L.take (k + 1) = L.take k ++ [L[k]] := List.take_succ_eq_append_getElem hk

theorem keepc {w w' : World} {g b o : Nat} {v : Value} (hg : w.grownBy w' (some g)) (h : w.cell? ⟨b, o, none⟩ = some v) (hne : b ≠ g) : w'.cell? ⟨b, o, none⟩ = some v := hg.cell h (by intro e; injection e with e; exact hne e)

theorem nodup_ne {L : List Hp} {j k : Nat} {h : Hp} (hn : L.Nodup) (hj : j < L.length) (hk : L[k]? = some h) (hne : j ≠ k) : L[j] ≠ h := fun e => by
  have hkl : k < L.length := by
    rcases Nat.lt_or_ge k L.length with h' | h'
    · exact h'
    · rw [List.getElem?_eq_none h'] at hk; cases hk
  rw [List.getElem?_eq_getElem hkl] at hk
  injection hk with hk
  rw [← hk] at e
  exact hne ((List.getElem_inj hn).1 e)

theorem edgeV_no1 {h : Hp} {f t : Option Hp} {n d : Int} (hm : MkIs h f n d false) : edgeV h f t = false := by
  cases f with
  | none => simp [edgeV]
  | some p => cases hm.2.2

theorem edgeV_no2 {h : Hp} {f t : Option Hp} {n d : Int} (hm : MkIs h t n d false) : edgeV h f t = false := by
  cases t with
  | none => cases f <;> simp [edgeV]
  | some p => cases hm.2.2

theorem edgeV_yes {h : Hp} {f t : Option Hp} {n d n' d' : Int} (hm : MkIs h f n d true) (hm' : MkIs h t n' d' true) : edgeV h f t = decide (cmpS n d n' d' < 0) := by
  cases f with
  | none => cases hm.1
  | some p =>
    cases t with
    | none => cases hm'.1
    | some q =>
      obtain ⟨e1, e2, _⟩ := hm
      obtain ⟨e3, e4, _⟩ := hm'
      subst e1 e2 e3 e4
      unfold edgeV cmpS
      rw [Bool.eq_iff_iff, decide_eq_true_iff, decide_eq_true_iff, sgn_lt]
      omega

/-- isEdge's answers. -/
def EdgePost (h : Hp) (hs : List Hp) (w : World) (e : Ending) (w' : World) : Prop :=
  ∃ ed vd, e = .returned (.tuple #[.bool ed, .bool vd]) ∧ ((vd = true ∧ ed = false ∧ ∃ g ∈ hs, g ≠ h ∧ crH h g = 0 ∧ roomH g h ≤ 0) ∨ (vd = false ∧ NoVd h hs ∧ (ed = true ↔ EdgeB h hs))) ∧ Below w.heap.size w w'

set_option maxHeartbeats 1000000 in
set_option maxRecDepth 100000 in
theorem isEdge_any (A : Option Addr) (n c k : Nat) (hs : List Hp) (w : World) (hn : n = hs.length) (hA : HsAt w w.heap.size A hs) (hm : n ≤ 1048576) (hok : ∀ h ∈ hs, okH h = true) (h : Hp) (hk : hs[k]? = some h) (hnd : hs.Nodup) :
    Calls Try.prog 70 #[.slice A n c, .int .i64 k] w (EdgePost h hs w) := by
  have hkl : k < hs.length := by
    rcases Nat.lt_or_ge k hs.length with h' | h'
    · exact h'
    · rw [List.getElem?_eq_none h'] at hk; cases hk
  have HKE := Lib.hid hk
  have HND := Lib.hid hnd
  rw [List.getElem?_eq_getElem hkl] at hk
  injection hk with hk
  have hkn : k < n := by omega
  have hh := hok h (by rw [← hk]; exact List.getElem_mem hkl)
  obtain ⟨b, off, rfl, hlb, k0, k1, k2⟩ := hA.at_ hkl
  rw [hk] at k0 k1 k2
  clear hk hnd
  have HA := Lib.hid hA; clear hA
  have HN := Lib.hid hn; clear hn
  have HK := Lib.hid hok; clear hok
  clear hkl
  obtain ⟨x0, x1, x2⟩ := h
  simp only at k0 k1 k2
  have HH := Lib.hid hh; clear hh
  go_enter Try.func70, Try.ntmps70
  go_wp2_with fail
  go_loopw [23] (fun i wr => ∃ (j : Nat) (f t : Option Hp) (fn fd tn td : Int) (fi ti : Bool), j ≤ n ∧ i = .int .i64 j ∧ RowKit.Hid (LastLow (x0, x1, x2) (hs.take j) f) ∧ RowKit.Hid (FirstUp (x0, x1, x2) (hs.take j) t) ∧ RowKit.Hid (NoVd (x0, x1, x2) (hs.take j)) ∧ RowKit.Hid (MkIs (x0, x1, x2) f fn fd fi) ∧ RowKit.Hid (MkIs (x0, x1, x2) t tn td ti) ∧ RowKit.Hid (MarkAt wr (w.heap.size + 1) fn fd fi) ∧ RowKit.Hid (MarkAt wr (w.heap.size + 1 + 1) tn td ti) ∧ wr.cell? ⟨w.heap.size, 0, none⟩ = some (.int .i64 x0) ∧ wr.cell? ⟨w.heap.size, 1, none⟩ = some (.int .i64 x1) ∧ wr.cell? ⟨w.heap.size, 2, none⟩ = some (.int .i64 x2) ∧ w.heap.size + 1 + 1 + 1 ≤ wr.heap.size ∧ Below w.heap.size w wr) (fun i _ => n - (intOf i).toNat)
  case atStart =>
    refine ⟨0, none, none, 0, 0, 0, 0, false, false, Nat.zero_le _, rfl, ?_, ?_, ?_, ⟨rfl, rfl⟩, ⟨rfl, rfl⟩, ?_, ?_, by first | (go_simp; done) | (simp; done), by first | (go_simp; done) | (simp; done), by first | (go_simp; done) | (simp; done), by simp, (by repeat (first | exact Below.refl _ _ | assumption | refine below_drewN ?_ _ | refine Below.drew ?_ | refine Below.alloc ?_ (by first | omega | (simp <;> omega)) _ | refine Below.setCell ?_ (by first | omega | (simp <;> omega)) _))⟩
    · intro g hg; simp at hg
    · intro g hg; simp at hg
    · intro g hg; simp at hg
    · refine MarkAt.with_ ?_ ?_ ?_ ?_ ?_ ?_ (by simp) <;> first | (go_simp; done) | (simp; done)
    · refine MarkAt.with_ ?_ ?_ ?_ ?_ ?_ ?_ (by simp) <;> first | (go_simp; done) | (simp; done)
  case round =>
    obtain ⟨j, f, t, fn, fd, tn, td, fi, ti, hj, rfl, HF, HT, HV, HMF, HMT, HAF, HAT, q0, q1, q2, hz, hb⟩ := hrel
    by_cases hlt : j < n
    · have hl1 : j < hs.length := by have := HN.out; omega
      obtain ⟨b_, off_, e_, _, c0, c1, c2⟩ := (HA.out.below hb).at_ hl1
      injection e_ with e_; injection e_ with e1_ e2_; subst e1_ e2_
      have hlb' : b < wr.heap.size := by omega
      have hhj := HK.out _ (List.getElem_mem hl1)
      have htk := take_app hl1
      have hzl : w.heap.size < wr.heap.size := by omega
      by_cases hjk : j = k
      · have hself : hs[j] = (x0, x1, x2) := by
          have q := HKE.out
          rw [← hjk, List.getElem?_eq_getElem hl1] at q
          injection q
        have h0 : crH (x0, x1, x2) hs[j] = 0 := by rw [hself]; unfold crH; grind
        have HF2 := Lib.hid (show LastLow (x0, x1, x2) (hs.take (j + 1)) f by rw [htk]; exact low_skip HF.out (by omega))
        have HT2 := Lib.hid (show FirstUp (x0, x1, x2) (hs.take (j + 1)) t by rw [htk]; exact up_skip HT.out (by omega))
        have HV2 := Lib.hid (show NoVd (x0, x1, x2) (hs.take (j + 1)) by rw [htk]; exact noVd_step HV.out (fun e _ => absurd hself e))
        have HAF2 := Lib.hid (HAF.out.below ((Below.refl _ _).alloc (Nat.le_refl _) (.cells #[.int .i64 hs[j].1, .int .i64 hs[j].2.1, .int .i64 hs[j].2.2] 57)))
        have HAT2 := Lib.hid (HAT.out.below ((Below.refl _ _).alloc (Nat.le_refl _) (.cells #[.int .i64 hs[j].1, .int .i64 hs[j].2.1, .int .i64 hs[j].2.2] 57)))
        clear hself h0 htk
        generalize hs[j] = g at *
        obtain ⟨g0, g1, g2⟩ := g
        simp only at c0 c1 c2
        subst hjk
        go_wp2_with fail
        go_roundw
        case rel => exact ⟨j + 1, f, t, fn, fd, tn, td, fi, ti, by omega, by go_num, HF2, HT2, HV2, HMF, HMT, HAF2, HAT2, (by first | (go_keep; done) | (go_simp; done) | (simp; done) | assumption | (rw [World.frozen?_alloc_past _ _ _ (by first | omega | (simp <;> omega))]; assumption) | (rw [World.cell?_alloc_past _ _ _ (by first | omega | (simp <;> omega))]; assumption)), (by first | (go_keep; done) | (go_simp; done) | (simp; done) | assumption | (rw [World.frozen?_alloc_past _ _ _ (by first | omega | (simp <;> omega))]; assumption) | (rw [World.cell?_alloc_past _ _ _ (by first | omega | (simp <;> omega))]; assumption)), (by first | (go_keep; done) | (go_simp; done) | (simp; done) | assumption | (rw [World.frozen?_alloc_past _ _ _ (by first | omega | (simp <;> omega))]; assumption) | (rw [World.cell?_alloc_past _ _ _ (by first | omega | (simp <;> omega))]; assumption)), by simp; omega, (by repeat (first | exact Below.refl _ _ | assumption | refine below_drewN ?_ _ | refine Below.drew ?_ | refine Below.alloc ?_ (by first | omega | (simp <;> omega)) _ | refine Below.setCell ?_ (by first | omega | (simp <;> omega)) _))⟩
        case measure => simp [intOf]; omega
      · have hgne := nodup_ne HND.out hl1 HKE.out hjk
        have hjk' : ¬ (j : Int) = (k : Int) := by omega
        obtain ⟨q, hq⟩ : ∃ q, crH (x0, x1, x2) hs[j] = q := ⟨_, rfl⟩
        rcases Int.lt_trichotomy q 0 with hq0 | hq0 | hq0
        · have hmk := mk_bounds HH.out hhj
          obtain ⟨X, hX⟩ : ∃ X, pX (x0, x1, x2) hs[j] = X := ⟨_, rfl⟩
          obtain ⟨Y, hY⟩ : ∃ Y, pY (x0, x1, x2) hs[j] = Y := ⟨_, rfl⟩
          obtain ⟨D, hD⟩ : ∃ D, pD (x0, x1, x2) hs[j] = D := ⟨_, rfl⟩
          have hpb := (pt_bounds HH.out hhj).2.2
          have hpd := pD_pos (h := (x0, x1, x2)) (g := hs[j]) (by omega)
          have hN : mkN (x0, x1, x2) hs[j] = x0 * Y - x1 * X := by unfold mkN; rw [hX, hY]
          simp only at hmk
          rw [hX, hY] at hmk
          rw [hD] at hpb hpd
          obtain ⟨⟨m1, m2⟩, m3, m4⟩ := hmk
          have hND : -9223372036854775808 ≤ x0 * Y - x1 * X ∧ x0 * Y - x1 * X ≤ 9223372036854775807 := by omega
          have hDB : 1 ≤ D ∧ D ≤ 9223372036854775807 := by omega
          have hg0 : q ≠ 0 := by omega
          obtain ⟨f1, f2⟩ := mk_low HMF.out HF.out HH.out (fun x hx => HK.out x (List.mem_of_mem_take hx))
          obtain ⟨t1, t2⟩ := mk_up HMT.out HT.out HH.out (fun x hx => HK.out x (List.mem_of_mem_take hx))
          have HT2 := Lib.hid (show FirstUp (x0, x1, x2) (hs.take (j + 1)) t by rw [htk]; exact up_skip HT.out (by omega))
          have hstay : fi = true → stays true (cmpS (x0 * Y - x1 * X) D fn fd) = true → LastLow (x0, x1, x2) (hs.take (j + 1)) f ∧ MkIs (x0, x1, x2) f fn fd true := fun a b => by rw [htk]; exact low_stays HMF.out HF.out hN hD a b
          have hturn : (fi = false ∨ stays true (cmpS (x0 * Y - x1 * X) D fn fd) = false) → RowKit.Hid (LastLow (x0, x1, x2) (hs.take (j + 1)) (some hs[j]) ∧ MkIs (x0, x1, x2) (some hs[j]) (x0 * Y - x1 * X) D true) := fun a => by show _ ∧ _; rw [htk]; exact low_turns HMF.out HF.out (by omega) hN hD a
          have HV2 := Lib.hid (show NoVd (x0, x1, x2) (hs.take (j + 1)) by rw [htk]; exact noVd_step HV.out (fun _ e => absurd (hq.symm.trans e) hg0))
          clear htk hgne
          generalize hs[j] = g at *
          obtain ⟨g0, g1, g2⟩ := g
          simp only at c0 c1 c2
          have HG := Lib.hid hhj; have HQ := Lib.hid hq; have HX := Lib.hid hX; have HY := Lib.hid hY; have HD := Lib.hid hD
          have HPD := Lib.hid hDB
          have HNB := Lib.hid hND
          have HG0 := Lib.hid hg0
          have hq0' : (q == 0) = false := by simp; omega
          clear hhj hq hX hY hD hN hjk hDB hND hpb hpd hg0
          go_wp2_with fail
          go_wp2_with fail
          go_at_call 91; with_reducible refine (crossH_is HH.out HG.out HQ.out _).mono ?_
          rintro e wa ⟨rfl, hb1⟩
          have HAFa := Lib.hid ((HAF.out.below ((Below.refl _ _).alloc (Nat.le_refl _) _)).below hb1)
          have HATa := Lib.hid ((HAT.out.below ((Below.refl _ _).alloc (Nat.le_refl _) _)).below hb1)
          have cc_wa0 := cell_keep (p := ⟨w.heap.size, 0, none⟩) (v := .int .i64 x0) hb1 (by first | assumption | (go_keep; done) | (go_simp; done) | (simp; done)) (by first | omega | (simp <;> omega))
          have cc_wa1 := cell_keep (p := ⟨w.heap.size, 1, none⟩) (v := .int .i64 x1) hb1 (by first | assumption | (go_keep; done) | (go_simp; done) | (simp; done)) (by first | omega | (simp <;> omega))
          have cc_wa2 := cell_keep (p := ⟨w.heap.size, 2, none⟩) (v := .int .i64 x2) hb1 (by first | assumption | (go_keep; done) | (go_simp; done) | (simp; done)) (by first | omega | (simp <;> omega))
          have cc_wa3 := cell_keep (p := ⟨wr.heap.size, 0, none⟩) (v := .int .i64 g0) hb1 (by first | assumption | (go_keep; done) | (go_simp; done) | (simp; done)) (by first | omega | (simp <;> omega))
          have cc_wa4 := cell_keep (p := ⟨wr.heap.size, 1, none⟩) (v := .int .i64 g1) hb1 (by first | assumption | (go_keep; done) | (go_simp; done) | (simp; done)) (by first | omega | (simp <;> omega))
          have cc_wa5 := cell_keep (p := ⟨wr.heap.size, 2, none⟩) (v := .int .i64 g2) hb1 (by first | assumption | (go_keep; done) | (go_simp; done) | (simp; done)) (by first | omega | (simp <;> omega))
          have hS1_wa : Below w.heap.size w wa := S_below hb1 (by repeat (first | exact Below.refl _ _ | assumption | refine below_drewN ?_ _ | refine Below.drew ?_ | refine Below.alloc ?_ (by first | omega | (simp <;> omega)) _ | refine Below.setCell ?_ (by first | omega | (simp <;> omega)) _)) (by first | omega | (simp <;> omega))
          have hz1_wa : w.heap.size + 1 + 1 + 1 ≤ wa.heap.size := S_size hb1 (by first | omega | (simp <;> omega))
          have hqb_wa0 : w.heap.size < wa.heap.size := S_lt hb1 (by first | omega | (simp <;> omega))
          have hqb_wa1 : wr.heap.size < wa.heap.size := S_lt hb1 (by first | omega | (simp <;> omega))
          clear hb1
          go_wp2_with fail
          go_at_call 93; with_reducible refine (crossing_is HH.out HG.out HQ.out HG0.out HX.out HY.out HD.out _).mono ?_
          rintro e wb ⟨rfl, hb1⟩
          have HAFb := Lib.hid (HAFa.out.below hb1)
          have HATb := Lib.hid (HATa.out.below hb1)
          have cc_wb0 := cell_keep (p := ⟨w.heap.size, 0, none⟩) (v := .int .i64 x0) hb1 (by first | assumption | (go_keep; done) | (go_simp; done) | (simp; done)) (by first | omega | (simp <;> omega))
          have cc_wb1 := cell_keep (p := ⟨w.heap.size, 1, none⟩) (v := .int .i64 x1) hb1 (by first | assumption | (go_keep; done) | (go_simp; done) | (simp; done)) (by first | omega | (simp <;> omega))
          have cc_wb2 := cell_keep (p := ⟨w.heap.size, 2, none⟩) (v := .int .i64 x2) hb1 (by first | assumption | (go_keep; done) | (go_simp; done) | (simp; done)) (by first | omega | (simp <;> omega))
          have cc_wb3 := cell_keep (p := ⟨wr.heap.size, 0, none⟩) (v := .int .i64 g0) hb1 (by first | assumption | (go_keep; done) | (go_simp; done) | (simp; done)) (by first | omega | (simp <;> omega))
          have cc_wb4 := cell_keep (p := ⟨wr.heap.size, 1, none⟩) (v := .int .i64 g1) hb1 (by first | assumption | (go_keep; done) | (go_simp; done) | (simp; done)) (by first | omega | (simp <;> omega))
          have cc_wb5 := cell_keep (p := ⟨wr.heap.size, 2, none⟩) (v := .int .i64 g2) hb1 (by first | assumption | (go_keep; done) | (go_simp; done) | (simp; done)) (by first | omega | (simp <;> omega))
          have hS1_wb : Below w.heap.size w wb := S_below hb1 (by repeat (first | exact Below.refl _ _ | assumption | refine below_drewN ?_ _ | refine Below.drew ?_ | refine Below.alloc ?_ (by first | omega | (simp <;> omega)) _ | refine Below.setCell ?_ (by first | omega | (simp <;> omega)) _)) (by first | omega | (simp <;> omega))
          have hz1_wb : w.heap.size + 1 + 1 + 1 ≤ wb.heap.size := S_size hb1 (by first | omega | (simp <;> omega))
          have hqb_wb0 : w.heap.size < wb.heap.size := S_lt hb1 (by first | omega | (simp <;> omega))
          have hqb_wb1 : wr.heap.size < wb.heap.size := S_lt hb1 (by first | omega | (simp <;> omega))
          clear hb1
          go_wp2_with fail
          go_at_call 94; refine (narrow_any (w.heap.size + 1) fn fd (x0 * Y - x1 * X) D fi true _ HAFb.out HNB.out HPD.out f1 f2).mono ?_; rintro e w7 ⟨rfl, hg7, hr7⟩
          have s0 := keepc hg7 cc_wb0 (by omega)
          have s1 := keepc hg7 cc_wb1 (by omega)
          have s2 := keepc hg7 cc_wb2 (by omega)
          have hS7 : Below w.heap.size w w7 := hS1_wb.grown hg7 (by omega) (by intro k e; injection e with e; omega)
          have hz7 : w.heap.size + 1 + 1 + 1 ≤ w7.heap.size := Nat.le_trans hz1_wb hg7.size
          have HOTH := Lib.hid (HATb.out.other hg7 (by omega))
          rcases hr7 with ⟨r1, r2, r3⟩ | ⟨r1, r3⟩
          · obtain ⟨u1, u2⟩ := hstay r1 r2
            have U1 := Lib.hid u1; have U2 := Lib.hid u2; have U3 := Lib.hid r3
            clear hstay hturn u1 u2 r1 r2 r3 hg7
            go_wp2_with fail
            go_roundw
            case rel => exact ⟨j + 1, f, t, fn, fd, tn, td, true, ti, by omega, by go_num, U1, HT2, HV2, U2, HMT, U3, HOTH, s0, s1, s2, hz7, hS7⟩
            case measure => simp [intOf]; omega
          · obtain ⟨u1, u2⟩ := hturn r1
            have U1 := Lib.hid u1; have U2 := Lib.hid u2; have U3 := Lib.hid r3
            clear hstay hturn u1 u2 r1 r3 hg7
            go_wp2_with fail
            go_roundw
            case rel => exact ⟨j + 1, some (g0, g1, g2), t, x0 * Y - x1 * X, D, tn, td, true, ti, by omega, by go_num, U1, HT2, HV2, U2, HMT, U3, HOTH, s0, s1, s2, hz7, hS7⟩
            case measure => simp [intOf]; omega
        · subst hq0
          have HF2 := Lib.hid (show LastLow (x0, x1, x2) (hs.take (j + 1)) f by rw [htk]; exact low_skip HF.out (by omega))
          have HT2 := Lib.hid (show FirstUp (x0, x1, x2) (hs.take (j + 1)) t by rw [htk]; exact up_skip HT.out (by omega))
          have hvd : 0 < roomH hs[j] (x0, x1, x2) → NoVd (x0, x1, x2) (hs.take (j + 1)) := fun h => by rw [htk]; exact noVd_step HV.out (fun _ _ => h)
          have hvn : ¬ 0 < roomH hs[j] (x0, x1, x2) → RowKit.Hid (∃ g ∈ hs, g ≠ (x0, x1, x2) ∧ crH (x0, x1, x2) g = 0 ∧ roomH g (x0, x1, x2) ≤ 0) := fun h => ⟨hs[j], List.getElem_mem hl1, hgne, hq, by omega⟩
          clear htk hgne
          generalize hs[j] = g at *
          obtain ⟨g0, g1, g2⟩ := g
          simp only at c0 c1 c2
          have HG := Lib.hid hhj; have HQ := Lib.hid hq; clear hhj hq
          obtain ⟨v, hv⟩ : ∃ v, decide (0 < roomH (g0, g1, g2) (x0, x1, x2)) = v := ⟨_, rfl⟩
          have HR := Lib.hid hv
          cases v
          · have HVN := hvn (of_decide_eq_false hv)
            clear hvd hvn hv hjk
            go_wp2_with fail
            go_wp2_with fail
            go_at_call 91; with_reducible refine (crossH_is HH.out HG.out HQ.out _).mono ?_
            rintro e wa ⟨rfl, hb1⟩
            have cc_wa0 := cell_keep (p := ⟨w.heap.size, 0, none⟩) (v := .int .i64 x0) hb1 (by first | assumption | (go_keep; done) | (go_simp; done) | (simp; done)) (by first | omega | (simp <;> omega))
            have cc_wa1 := cell_keep (p := ⟨w.heap.size, 1, none⟩) (v := .int .i64 x1) hb1 (by first | assumption | (go_keep; done) | (go_simp; done) | (simp; done)) (by first | omega | (simp <;> omega))
            have cc_wa2 := cell_keep (p := ⟨w.heap.size, 2, none⟩) (v := .int .i64 x2) hb1 (by first | assumption | (go_keep; done) | (go_simp; done) | (simp; done)) (by first | omega | (simp <;> omega))
            have cc_wa3 := cell_keep (p := ⟨wr.heap.size, 0, none⟩) (v := .int .i64 g0) hb1 (by first | assumption | (go_keep; done) | (go_simp; done) | (simp; done)) (by first | omega | (simp <;> omega))
            have cc_wa4 := cell_keep (p := ⟨wr.heap.size, 1, none⟩) (v := .int .i64 g1) hb1 (by first | assumption | (go_keep; done) | (go_simp; done) | (simp; done)) (by first | omega | (simp <;> omega))
            have cc_wa5 := cell_keep (p := ⟨wr.heap.size, 2, none⟩) (v := .int .i64 g2) hb1 (by first | assumption | (go_keep; done) | (go_simp; done) | (simp; done)) (by first | omega | (simp <;> omega))
            have hS1_wa : Below w.heap.size w wa := S_below hb1 (by repeat (first | exact Below.refl _ _ | assumption | refine below_drewN ?_ _ | refine Below.drew ?_ | refine Below.alloc ?_ (by first | omega | (simp <;> omega)) _ | refine Below.setCell ?_ (by first | omega | (simp <;> omega)) _)) (by first | omega | (simp <;> omega))
            have hz1_wa : w.heap.size + 1 + 1 + 1 ≤ wa.heap.size := S_size hb1 (by first | omega | (simp <;> omega))
            have hqb_wa0 : w.heap.size < wa.heap.size := S_lt hb1 (by first | omega | (simp <;> omega))
            have hqb_wa1 : wr.heap.size < wa.heap.size := S_lt hb1 (by first | omega | (simp <;> omega))
            clear hb1
            go_wp2_with fail
            go_at_call 92; with_reducible refine (roomH_is HG.out HH.out HR.out _).mono ?_
            rintro e wb ⟨rfl, hb1⟩
            have cc_wb0 := cell_keep (p := ⟨w.heap.size, 0, none⟩) (v := .int .i64 x0) hb1 (by first | assumption | (go_keep; done) | (go_simp; done) | (simp; done)) (by first | omega | (simp <;> omega))
            have cc_wb1 := cell_keep (p := ⟨w.heap.size, 1, none⟩) (v := .int .i64 x1) hb1 (by first | assumption | (go_keep; done) | (go_simp; done) | (simp; done)) (by first | omega | (simp <;> omega))
            have cc_wb2 := cell_keep (p := ⟨w.heap.size, 2, none⟩) (v := .int .i64 x2) hb1 (by first | assumption | (go_keep; done) | (go_simp; done) | (simp; done)) (by first | omega | (simp <;> omega))
            have cc_wb3 := cell_keep (p := ⟨wr.heap.size, 0, none⟩) (v := .int .i64 g0) hb1 (by first | assumption | (go_keep; done) | (go_simp; done) | (simp; done)) (by first | omega | (simp <;> omega))
            have cc_wb4 := cell_keep (p := ⟨wr.heap.size, 1, none⟩) (v := .int .i64 g1) hb1 (by first | assumption | (go_keep; done) | (go_simp; done) | (simp; done)) (by first | omega | (simp <;> omega))
            have cc_wb5 := cell_keep (p := ⟨wr.heap.size, 2, none⟩) (v := .int .i64 g2) hb1 (by first | assumption | (go_keep; done) | (go_simp; done) | (simp; done)) (by first | omega | (simp <;> omega))
            have hS1_wb : Below w.heap.size w wb := S_below hb1 (by repeat (first | exact Below.refl _ _ | assumption | refine below_drewN ?_ _ | refine Below.drew ?_ | refine Below.alloc ?_ (by first | omega | (simp <;> omega)) _ | refine Below.setCell ?_ (by first | omega | (simp <;> omega)) _)) (by first | omega | (simp <;> omega))
            have hz1_wb : w.heap.size + 1 + 1 + 1 ≤ wb.heap.size := S_size hb1 (by first | omega | (simp <;> omega))
            have hqb_wb0 : w.heap.size < wb.heap.size := S_lt hb1 (by first | omega | (simp <;> omega))
            have hqb_wb1 : wr.heap.size < wb.heap.size := S_lt hb1 (by first | omega | (simp <;> omega))
            clear hb1
            go_wp2_with fail
            go_ret2
            exact ⟨false, true, rfl, .inl ⟨rfl, rfl, HVN.out⟩, hS1_wb⟩
          · have HV2 := Lib.hid (hvd (of_decide_eq_true hv))
            clear hvd hvn hv hjk
            go_wp2_with fail
            go_wp2_with fail
            go_at_call 91; with_reducible refine (crossH_is HH.out HG.out HQ.out _).mono ?_
            rintro e wa ⟨rfl, hb1⟩
            have HAFa := Lib.hid ((HAF.out.below ((Below.refl _ _).alloc (Nat.le_refl _) _)).below hb1)
            have HATa := Lib.hid ((HAT.out.below ((Below.refl _ _).alloc (Nat.le_refl _) _)).below hb1)
            have cc_wa0 := cell_keep (p := ⟨w.heap.size, 0, none⟩) (v := .int .i64 x0) hb1 (by first | assumption | (go_keep; done) | (go_simp; done) | (simp; done)) (by first | omega | (simp <;> omega))
            have cc_wa1 := cell_keep (p := ⟨w.heap.size, 1, none⟩) (v := .int .i64 x1) hb1 (by first | assumption | (go_keep; done) | (go_simp; done) | (simp; done)) (by first | omega | (simp <;> omega))
            have cc_wa2 := cell_keep (p := ⟨w.heap.size, 2, none⟩) (v := .int .i64 x2) hb1 (by first | assumption | (go_keep; done) | (go_simp; done) | (simp; done)) (by first | omega | (simp <;> omega))
            have cc_wa3 := cell_keep (p := ⟨wr.heap.size, 0, none⟩) (v := .int .i64 g0) hb1 (by first | assumption | (go_keep; done) | (go_simp; done) | (simp; done)) (by first | omega | (simp <;> omega))
            have cc_wa4 := cell_keep (p := ⟨wr.heap.size, 1, none⟩) (v := .int .i64 g1) hb1 (by first | assumption | (go_keep; done) | (go_simp; done) | (simp; done)) (by first | omega | (simp <;> omega))
            have cc_wa5 := cell_keep (p := ⟨wr.heap.size, 2, none⟩) (v := .int .i64 g2) hb1 (by first | assumption | (go_keep; done) | (go_simp; done) | (simp; done)) (by first | omega | (simp <;> omega))
            have hS1_wa : Below w.heap.size w wa := S_below hb1 (by repeat (first | exact Below.refl _ _ | assumption | refine below_drewN ?_ _ | refine Below.drew ?_ | refine Below.alloc ?_ (by first | omega | (simp <;> omega)) _ | refine Below.setCell ?_ (by first | omega | (simp <;> omega)) _)) (by first | omega | (simp <;> omega))
            have hz1_wa : w.heap.size + 1 + 1 + 1 ≤ wa.heap.size := S_size hb1 (by first | omega | (simp <;> omega))
            have hqb_wa0 : w.heap.size < wa.heap.size := S_lt hb1 (by first | omega | (simp <;> omega))
            have hqb_wa1 : wr.heap.size < wa.heap.size := S_lt hb1 (by first | omega | (simp <;> omega))
            clear hb1
            go_wp2_with fail
            go_at_call 92; with_reducible refine (roomH_is HG.out HH.out HR.out _).mono ?_
            rintro e wb ⟨rfl, hb1⟩
            have HAFb := Lib.hid (HAFa.out.below hb1)
            have HATb := Lib.hid (HATa.out.below hb1)
            have cc_wb0 := cell_keep (p := ⟨w.heap.size, 0, none⟩) (v := .int .i64 x0) hb1 (by first | assumption | (go_keep; done) | (go_simp; done) | (simp; done)) (by first | omega | (simp <;> omega))
            have cc_wb1 := cell_keep (p := ⟨w.heap.size, 1, none⟩) (v := .int .i64 x1) hb1 (by first | assumption | (go_keep; done) | (go_simp; done) | (simp; done)) (by first | omega | (simp <;> omega))
            have cc_wb2 := cell_keep (p := ⟨w.heap.size, 2, none⟩) (v := .int .i64 x2) hb1 (by first | assumption | (go_keep; done) | (go_simp; done) | (simp; done)) (by first | omega | (simp <;> omega))
            have cc_wb3 := cell_keep (p := ⟨wr.heap.size, 0, none⟩) (v := .int .i64 g0) hb1 (by first | assumption | (go_keep; done) | (go_simp; done) | (simp; done)) (by first | omega | (simp <;> omega))
            have cc_wb4 := cell_keep (p := ⟨wr.heap.size, 1, none⟩) (v := .int .i64 g1) hb1 (by first | assumption | (go_keep; done) | (go_simp; done) | (simp; done)) (by first | omega | (simp <;> omega))
            have cc_wb5 := cell_keep (p := ⟨wr.heap.size, 2, none⟩) (v := .int .i64 g2) hb1 (by first | assumption | (go_keep; done) | (go_simp; done) | (simp; done)) (by first | omega | (simp <;> omega))
            have hS1_wb : Below w.heap.size w wb := S_below hb1 (by repeat (first | exact Below.refl _ _ | assumption | refine below_drewN ?_ _ | refine Below.drew ?_ | refine Below.alloc ?_ (by first | omega | (simp <;> omega)) _ | refine Below.setCell ?_ (by first | omega | (simp <;> omega)) _)) (by first | omega | (simp <;> omega))
            have hz1_wb : w.heap.size + 1 + 1 + 1 ≤ wb.heap.size := S_size hb1 (by first | omega | (simp <;> omega))
            have hqb_wb0 : w.heap.size < wb.heap.size := S_lt hb1 (by first | omega | (simp <;> omega))
            have hqb_wb1 : wr.heap.size < wb.heap.size := S_lt hb1 (by first | omega | (simp <;> omega))
            clear hb1
            go_wp2_with fail
            go_roundw
            case rel => exact ⟨j + 1, f, t, fn, fd, tn, td, fi, ti, by omega, by go_num, HF2, HT2, HV2, HMF, HMT, HAFb, HATb, cc_wb0, cc_wb1, cc_wb2, hz1_wb, hS1_wb⟩
            case measure => simp [intOf]; omega
        · have hmk := mk_bounds HH.out hhj
          obtain ⟨X, hX⟩ : ∃ X, pX (x0, x1, x2) hs[j] = X := ⟨_, rfl⟩
          obtain ⟨Y, hY⟩ : ∃ Y, pY (x0, x1, x2) hs[j] = Y := ⟨_, rfl⟩
          obtain ⟨D, hD⟩ : ∃ D, pD (x0, x1, x2) hs[j] = D := ⟨_, rfl⟩
          have hpb := (pt_bounds HH.out hhj).2.2
          have hpd := pD_pos (h := (x0, x1, x2)) (g := hs[j]) (by omega)
          have hN : mkN (x0, x1, x2) hs[j] = x0 * Y - x1 * X := by unfold mkN; rw [hX, hY]
          simp only at hmk
          rw [hX, hY] at hmk
          rw [hD] at hpb hpd
          obtain ⟨⟨m1, m2⟩, m3, m4⟩ := hmk
          have hND : -9223372036854775808 ≤ x0 * Y - x1 * X ∧ x0 * Y - x1 * X ≤ 9223372036854775807 := by omega
          have hDB : 1 ≤ D ∧ D ≤ 9223372036854775807 := by omega
          have hg0 : q ≠ 0 := by omega
          obtain ⟨f1, f2⟩ := mk_low HMF.out HF.out HH.out (fun x hx => HK.out x (List.mem_of_mem_take hx))
          obtain ⟨t1, t2⟩ := mk_up HMT.out HT.out HH.out (fun x hx => HK.out x (List.mem_of_mem_take hx))
          have HF2 := Lib.hid (show LastLow (x0, x1, x2) (hs.take (j + 1)) f by rw [htk]; exact low_skip HF.out (by omega))
          have hstay : ti = true → stays false (cmpS (x0 * Y - x1 * X) D tn td) = true → FirstUp (x0, x1, x2) (hs.take (j + 1)) t ∧ MkIs (x0, x1, x2) t tn td true := fun a b => by rw [htk]; exact up_stays HMT.out HT.out hN hD a b
          have hturn : (ti = false ∨ stays false (cmpS (x0 * Y - x1 * X) D tn td) = false) → RowKit.Hid (FirstUp (x0, x1, x2) (hs.take (j + 1)) (some hs[j]) ∧ MkIs (x0, x1, x2) (some hs[j]) (x0 * Y - x1 * X) D true) := fun a => by show _ ∧ _; rw [htk]; exact up_turns HMT.out HT.out (by omega) hN hD a
          have HV2 := Lib.hid (show NoVd (x0, x1, x2) (hs.take (j + 1)) by rw [htk]; exact noVd_step HV.out (fun _ e => absurd (hq.symm.trans e) hg0))
          clear htk hgne
          generalize hs[j] = g at *
          obtain ⟨g0, g1, g2⟩ := g
          simp only at c0 c1 c2
          have HG := Lib.hid hhj; have HQ := Lib.hid hq; have HX := Lib.hid hX; have HY := Lib.hid hY; have HD := Lib.hid hD
          have HPD := Lib.hid hDB
          have HNB := Lib.hid hND
          have HG0 := Lib.hid hg0
          have hq0' : (q == 0) = false := by simp; omega
          clear hhj hq hX hY hD hN hjk hDB hND hpb hpd hg0
          go_wp2_with fail
          go_wp2_with fail
          go_at_call 91; with_reducible refine (crossH_is HH.out HG.out HQ.out _).mono ?_
          rintro e wa ⟨rfl, hb1⟩
          have HAFa := Lib.hid ((HAF.out.below ((Below.refl _ _).alloc (Nat.le_refl _) _)).below hb1)
          have HATa := Lib.hid ((HAT.out.below ((Below.refl _ _).alloc (Nat.le_refl _) _)).below hb1)
          have cc_wa0 := cell_keep (p := ⟨w.heap.size, 0, none⟩) (v := .int .i64 x0) hb1 (by first | assumption | (go_keep; done) | (go_simp; done) | (simp; done)) (by first | omega | (simp <;> omega))
          have cc_wa1 := cell_keep (p := ⟨w.heap.size, 1, none⟩) (v := .int .i64 x1) hb1 (by first | assumption | (go_keep; done) | (go_simp; done) | (simp; done)) (by first | omega | (simp <;> omega))
          have cc_wa2 := cell_keep (p := ⟨w.heap.size, 2, none⟩) (v := .int .i64 x2) hb1 (by first | assumption | (go_keep; done) | (go_simp; done) | (simp; done)) (by first | omega | (simp <;> omega))
          have cc_wa3 := cell_keep (p := ⟨wr.heap.size, 0, none⟩) (v := .int .i64 g0) hb1 (by first | assumption | (go_keep; done) | (go_simp; done) | (simp; done)) (by first | omega | (simp <;> omega))
          have cc_wa4 := cell_keep (p := ⟨wr.heap.size, 1, none⟩) (v := .int .i64 g1) hb1 (by first | assumption | (go_keep; done) | (go_simp; done) | (simp; done)) (by first | omega | (simp <;> omega))
          have cc_wa5 := cell_keep (p := ⟨wr.heap.size, 2, none⟩) (v := .int .i64 g2) hb1 (by first | assumption | (go_keep; done) | (go_simp; done) | (simp; done)) (by first | omega | (simp <;> omega))
          have hS1_wa : Below w.heap.size w wa := S_below hb1 (by repeat (first | exact Below.refl _ _ | assumption | refine below_drewN ?_ _ | refine Below.drew ?_ | refine Below.alloc ?_ (by first | omega | (simp <;> omega)) _ | refine Below.setCell ?_ (by first | omega | (simp <;> omega)) _)) (by first | omega | (simp <;> omega))
          have hz1_wa : w.heap.size + 1 + 1 + 1 ≤ wa.heap.size := S_size hb1 (by first | omega | (simp <;> omega))
          have hqb_wa0 : w.heap.size < wa.heap.size := S_lt hb1 (by first | omega | (simp <;> omega))
          have hqb_wa1 : wr.heap.size < wa.heap.size := S_lt hb1 (by first | omega | (simp <;> omega))
          clear hb1
          go_wp2_with fail
          go_at_call 93; with_reducible refine (crossing_is HH.out HG.out HQ.out HG0.out HX.out HY.out HD.out _).mono ?_
          rintro e wb ⟨rfl, hb1⟩
          have HAFb := Lib.hid (HAFa.out.below hb1)
          have HATb := Lib.hid (HATa.out.below hb1)
          have cc_wb0 := cell_keep (p := ⟨w.heap.size, 0, none⟩) (v := .int .i64 x0) hb1 (by first | assumption | (go_keep; done) | (go_simp; done) | (simp; done)) (by first | omega | (simp <;> omega))
          have cc_wb1 := cell_keep (p := ⟨w.heap.size, 1, none⟩) (v := .int .i64 x1) hb1 (by first | assumption | (go_keep; done) | (go_simp; done) | (simp; done)) (by first | omega | (simp <;> omega))
          have cc_wb2 := cell_keep (p := ⟨w.heap.size, 2, none⟩) (v := .int .i64 x2) hb1 (by first | assumption | (go_keep; done) | (go_simp; done) | (simp; done)) (by first | omega | (simp <;> omega))
          have cc_wb3 := cell_keep (p := ⟨wr.heap.size, 0, none⟩) (v := .int .i64 g0) hb1 (by first | assumption | (go_keep; done) | (go_simp; done) | (simp; done)) (by first | omega | (simp <;> omega))
          have cc_wb4 := cell_keep (p := ⟨wr.heap.size, 1, none⟩) (v := .int .i64 g1) hb1 (by first | assumption | (go_keep; done) | (go_simp; done) | (simp; done)) (by first | omega | (simp <;> omega))
          have cc_wb5 := cell_keep (p := ⟨wr.heap.size, 2, none⟩) (v := .int .i64 g2) hb1 (by first | assumption | (go_keep; done) | (go_simp; done) | (simp; done)) (by first | omega | (simp <;> omega))
          have hS1_wb : Below w.heap.size w wb := S_below hb1 (by repeat (first | exact Below.refl _ _ | assumption | refine below_drewN ?_ _ | refine Below.drew ?_ | refine Below.alloc ?_ (by first | omega | (simp <;> omega)) _ | refine Below.setCell ?_ (by first | omega | (simp <;> omega)) _)) (by first | omega | (simp <;> omega))
          have hz1_wb : w.heap.size + 1 + 1 + 1 ≤ wb.heap.size := S_size hb1 (by first | omega | (simp <;> omega))
          have hqb_wb0 : w.heap.size < wb.heap.size := S_lt hb1 (by first | omega | (simp <;> omega))
          have hqb_wb1 : wr.heap.size < wb.heap.size := S_lt hb1 (by first | omega | (simp <;> omega))
          clear hb1
          go_wp2_with fail
          go_at_call 94; refine (narrow_any (w.heap.size + 1 + 1) tn td (x0 * Y - x1 * X) D ti false _ HATb.out HNB.out HPD.out t1 t2).mono ?_; rintro e w7 ⟨rfl, hg7, hr7⟩
          have s0 := keepc hg7 cc_wb0 (by omega)
          have s1 := keepc hg7 cc_wb1 (by omega)
          have s2 := keepc hg7 cc_wb2 (by omega)
          have hS7 : Below w.heap.size w w7 := hS1_wb.grown hg7 (by omega) (by intro k e; injection e with e; omega)
          have hz7 : w.heap.size + 1 + 1 + 1 ≤ w7.heap.size := Nat.le_trans hz1_wb hg7.size
          have HOTH := Lib.hid (HAFb.out.other hg7 (by omega))
          rcases hr7 with ⟨r1, r2, r3⟩ | ⟨r1, r3⟩
          · obtain ⟨u1, u2⟩ := hstay r1 r2
            have U1 := Lib.hid u1; have U2 := Lib.hid u2; have U3 := Lib.hid r3
            clear hstay hturn u1 u2 r1 r2 r3 hg7
            go_wp2_with fail
            go_roundw
            case rel => exact ⟨j + 1, f, t, fn, fd, tn, td, fi, true, by omega, by go_num, HF2, U1, HV2, HMF, U2, HOTH, U3, s0, s1, s2, hz7, hS7⟩
            case measure => simp [intOf]; omega
          · obtain ⟨u1, u2⟩ := hturn r1
            have U1 := Lib.hid u1; have U2 := Lib.hid u2; have U3 := Lib.hid r3
            clear hstay hturn u1 u2 r1 r3 hg7
            go_wp2_with fail
            go_roundw
            case rel => exact ⟨j + 1, f, some (g0, g1, g2), fn, fd, x0 * Y - x1 * X, D, fi, true, by omega, by go_num, HF2, U1, HV2, HMF, U2, HOTH, U3, s0, s1, s2, hz7, hS7⟩
            case measure => simp [intOf]; omega
    · have HE := Lib.hid (show LastLow (x0, x1, x2) hs f ∧ FirstUp (x0, x1, x2) hs t ∧ NoVd (x0, x1, x2) hs by
        have e : hs.take j = hs := List.take_of_length_le (by have := HN.out; omega)
        have a := HF.out; have b := HT.out; have c := HV.out
        rw [e] at a b c
        exact ⟨a, b, c⟩)
      obtain ⟨⟨a0, a1, a2⟩, _, _⟩ := HAF.out
      obtain ⟨⟨b0, b1, b2⟩, _, _⟩ := HAT.out
      obtain ⟨f1, f2⟩ := mk_low HMF.out HF.out HH.out (fun x hx => HK.out x (List.mem_of_mem_take hx))
      obtain ⟨t1, t2⟩ := mk_up HMT.out HT.out HH.out (fun x hx => HK.out x (List.mem_of_mem_take hx))
      have HEN := Lib.hid (edge_end HE.out.1 HE.out.2.1)
      cases fi
      · have HX := Lib.hid (edgeV_no1 (t := t) HMF.out)
        go_wp2_with fail
        go_ret2
        exact ⟨false, false, rfl, .inr ⟨rfl, HE.out.2.2, by rw [← HEN.out, HX.out]⟩, hb⟩
      · cases ti
        · have HX := Lib.hid (edgeV_no2 (f := f) HMT.out)
          go_wp2_with fail
          go_ret2
          exact ⟨false, false, rfl, .inr ⟨rfl, HE.out.2.2, by rw [← HEN.out, HX.out]⟩, hb⟩
        · obtain ⟨cv, hcv⟩ : ∃ cv, cmpS fn fd tn td = cv := ⟨_, rfl⟩
          have HX := Lib.hid ((edgeV_yes HMF.out HMT.out).trans (by rw [hcv]))
          have HC := Lib.hid hcv
          clear hcv
          go_wp2_with fail
          go_at_call 95; refine (compare_is HC.out _ f1 (f2 (by trivial)) t1 (t2 (by trivial))).mono ?_; rintro e w9 ⟨rfl, hw9⟩; subst hw9
          go_wp2_with fail
          go_ret2
          exact ⟨decide (cv < 0), false, rfl, .inr ⟨rfl, HE.out.2.2, by rw [← HEN.out, HX.out]⟩, hb⟩

end Go.Proofs.Ythdaoadleeelnaa
