/- Marks laid into slices of half planes and regions that the call itself made, and looked for again. -/
import Derived.Test.YthdaoadleeelnaaRgW
namespace Go.Proofs.Ythdaoadleeelnaa
open Go.ChangeShapes Go.WideShapes Go.ChangeAt Go.RowKit
attribute [local go_sem ↓] Go.wp_at_zero Go.wp_at_succ
set_option linter.unusedVariables false

/-- What marking leaves: the marks, and all other memory as it was. -/
def MarkOwn (hs : List Hp) (v : Value) (m q : Int) (B : Nat) (w : World) (e : Ending) (w' : World) : Prop :=
  ∃ hs' : List Hp, hs'.length = hs.length ∧ e = .returned (.int .i64 q) ∧ OwnH w' B v hs' ∧ MarkedTo hs' m hs.length ∧ w.grownBy w' v.ownBlock

set_option maxHeartbeats 1000000 in
set_option maxRecDepth 100000 in
theorem markHalfS_nil (m : Int) (w : World) :
    Calls Try.prog 15 #[.slice none 0 0, .int .i64 m] w fun e w' => e = .returned (.int .i64 m) ∧ w = w' := by
  go_enter Try.func15, Try.ntmps15
  go_wp2
  go_loop [1, 5] (fun q i => i = .int .i64 0 ∧ q = .int .i64 m) (fun _ _ => 0)
  case atStart => exact ⟨rfl, rfl⟩
  case round =>
    obtain ⟨rfl, rfl⟩ := hrel
    go_wp2
    go_ret
    exact ⟨rfl, rfl⟩

theorem markHalfS_own {A : Option Addr} {n c B : Nat} {hs : List Hp} {m q : Int} {w : World} (hO : OwnH w B (.slice A n c) hs) (hl : n ≤ 1000000000) (h1 : 0 ≤ m) (h2 : m ≤ 1000000000) (hq : m + 3 * n = q) :
    Calls Try.prog 15 #[.slice A n c, .int .i64 m] w (MarkOwn hs (.slice A n c) m q B w) := by
  have hn := hO.reads.1
  rcases hO.shape with ⟨e, e'⟩ | ⟨g, cap, e, _⟩
  · injection e with e1 e2 e3
    subst e1 e2 e3 e'
    refine (markHalfS_nil m w).mono ?_
    rintro e w' ⟨rfl, rfl⟩
    refine ⟨[], rfl, by subst hq; simp, hO, fun j hj => by simp at hj, World.grownBy.refl _ _⟩
  · injection e with e1 e2 e3
    subst e1 e2 e3
    refine (markHalfS_any g c hs.length B hs m w hO hl h1 h2).mono ?_
    rintro e w' ⟨hs', a, b, c', d, f⟩
    exact ⟨hs', a, by rw [b, ← hq], c', d, f⟩

theorem grown_from_alloc {w w' : World} {o : Obj} {row : Option Nat} (h : (w.alloc o).grownBy w' row) : w.grownBy w' row :=
  (World.grownBy_alloc w o row).trans h

set_option maxHeartbeats 1000000 in
set_option maxRecDepth 100000 in
theorem markRegion_own {A : Option Addr} {n c B : Nat} {hs : List Hp} {m q : Int} {w : World} (hO : OwnH w B (.slice A n c) hs) (hl : n ≤ 1000000000) (h1 : 0 ≤ m) (h2 : m ≤ 1000000000) (hq : m + 3 * n = q) :
    Calls Try.prog 26 #[.agg #[.slice A n c], .int .i64 m] w (MarkOwn hs (.slice A n c) m q B w) := by
  have HO := Lib.hid (hO.kept (w' := w.alloc (.cells #[.slice A n c] 33)) ((Below.refl _ _).alloc (Nat.le_refl _) _)); clear hO
  go_enter Try.func26, Try.ntmps26
  go_wp2_with fail
  go_at_call 15; refine (markHalfS_own HO.out hl h1 h2 hq).mono ?_; rintro e w1 ⟨hs', hl', rfl, hO1, hM1, hG1⟩
  have HP := Lib.hid (show MarkOwn hs (.slice A n c) m q B w (.returned (.int .i64 q)) w1 from ⟨hs', hl', rfl, hO1, hM1, grown_from_alloc hG1⟩)
  clear hO1 hM1 hG1
  go_wp2_with fail
  go_ret
  exact HP.out

set_option maxHeartbeats 1000000 in
set_option maxRecDepth 100000 in
theorem heldRegion_lit {A : Option Addr} {n c : Nat} {hs : List Hp} {m q : Int} {w : World} (hn : n = hs.length) (hA : HsAt w w.heap.size A hs) (hm : MarkedTo hs m n) (hl : n ≤ 1000000000) (h1 : 0 ≤ m) (h2 : m ≤ 1000000000) (hq : m + 3 * n = q) (h0 : ¬ q < 0) :
    Calls Try.prog 27 #[.agg #[.slice A n c], .int .i64 m] w fun e w' => e = .returned (.int .i64 q) ∧ Below w.heap.size w w' := by
  have HA := Lib.hid (hA.step ((Below.refl _ w).alloc (Nat.le_refl _) (.cells #[.slice A n c] 33))); clear hA
  have HM := Lib.hid hm; clear hm
  have HN := Lib.hid hn; clear hn
  go_enter Try.func27, Try.ntmps27
  go_wp2_with fail
  go_at_call 16; with_reducible refine (held_lit (q := q) A n c hs m _ HN.out HA.out HM.out hl h1 h2 hq).mono ?_; rintro e w1 ⟨rfl, rfl⟩
  go_wp2_with fail
  go_ret
  exact ⟨rfl, (by repeat (first | exact Below.refl _ _ | assumption | refine below_drewN ?_ _ | refine Below.drew ?_ | refine Below.alloc ?_ (by first | omega | (simp <;> omega)) _ | refine Below.setCell ?_ (by first | omega | (simp <;> omega)) _))⟩

/-- A region of another making stays as it was where this one is marked. -/
theorem OwnH.besides {w w' : World} {B : Nat} {v : Value} {hs : List Hp} {row : Option Nat} (h : OwnH w B v hs) (hg : w.grownBy w' row) (hne : ∀ q, v.ownBlock = some q → row ≠ some q) : OwnH w' B v hs :=
  World.ownsRow.kept h hg (by
    cases e : v.ownBlock
    · exact .inl rfl
    · exact .inr (fun e' => hne _ e e'.symm))

end Go.Proofs.Ythdaoadleeelnaa
