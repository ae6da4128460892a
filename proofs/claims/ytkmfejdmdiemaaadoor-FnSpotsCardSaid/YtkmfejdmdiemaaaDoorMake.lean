/- The makers of half planes and spots: each returns a valid one, for all byte slices. -/
import Derived.Test.YtkmfejdmdiemaaaDoorCur2
import Derived.Test.YtkmfejdmdiemaaaDoorHalf3
import Derived.Test.YtkmfejdmdiemaaaDoorSpot3
namespace Go.Proofs.YtkmfejdmdiemaaaDoor
open Go.ChangeShapes Go.WideShapes Go.ChangeAt Go.RowKit
attribute [local go_sem ↓] Go.wp_at_zero Go.wp_at_succ
set_option linter.unusedVariables false

theorem hoOk_valid {a b c : Int} (h : hoOk a b c = true) : halfOkV (hoN a b c a) (hoN a b c b) (hoN a b c c) = true := by
  rw [hoN_yes h, hoN_yes h, hoN_yes h]
  unfold hoOk at h
  simp only [Bool.and_eq_true] at h
  exact h.2.2.2

theorem spOk_valid {x y d : Int} (h : spOk x y d = true) : spotOkV (spX x y d) (spY x y d) (spD x y d) = true := by
  unfold spX spY spD
  rw [if_pos h, if_pos h, if_pos h]
  unfold spOk at h
  simp only [Bool.and_eq_true] at h
  exact h.2

theorem blk_grown {w w1 : World} {g : Nat} (h : w.grownBy w1 (some g)) {b : Nat} {o : Obj} (hb : w.heap[b]? = some o) (hne : b ≠ g) : w1.heap[b]? = some o :=
  (h.block b (heap_lt hb) (by intro e; injection e with e; exact hne e)).trans hb

theorem blk_below {w w1 : World} (h : Below w.heap.size w w1) {b : Nat} {o : Obj} (hb : w.heap[b]? = some o) : w1.heap[b]? = some o := (h.block b (heap_lt hb)).trans hb

theorem blk_frozen {w : World} {b : Nat} {cs : Array Value} {t : TypeId} (h : w.heap[b]? = some (.cells cs t (0, 0))) (k : Nat) : w.frozen? ⟨b, k, none⟩ = false := by simp [World.frozen?, h]

theorem CurAt.alloc {w : World} {B g : Nat} {A : Option Addr} {n c : Nat} (h : CurAt w B g A n c) (o : Obj) : CurAt (w.alloc o) B g A n c := h.kept ((Below.refl _ _).alloc h.lt _)

theorem CurAt.belowC {w w1 : World} {B g : Nat} {A : Option Addr} {n c : Nat} (h : CurAt w B g A n c) (hb : Below w.heap.size w w1) : CurAt w1 B g A n c := h.kept (hb.mono h.lt)

theorem three_set {w : World} {b : Nat} {x y z : Value} {t : TypeId} (K : w.heap[b]? = some (.cells #[x, y, z] t (0, 0))) (u0 u1 u2 : Value) :
    (((w.setCell ⟨b, 0, none⟩ u0).setCell ⟨b, 1, none⟩ u1).setCell ⟨b, 2, none⟩ u2).heap[b]? = some (.cells #[u0, u1, u2] t (0, 0)) := blk_set (blk_set (blk_set K 0 u0) 1 u1) 2 u2

theorem alloc_blk {w : World} {b : Nat} {o' : Obj} (h : w.heap[b]? = some o') (o : Obj) : (w.alloc o).heap[b]? = some o' := (Below.heap_alloc w o b (heap_lt h)).trans h

theorem setal_0 {w : World} {b : Nat} {x y z : Value} {t : TypeId} (K : w.heap[b]? = some (.cells #[x, y, z] t (0, 0))) (u0 u1 u2 : Value) (o : Obj) :
    ((((w.setCell ⟨b, 0, none⟩ u0).setCell ⟨b, 1, none⟩ u1).setCell ⟨b, 2, none⟩ u2).alloc o).cell? ⟨b, 0, none⟩ = some u0 := cell_of_row _ _ 0 _ _ _ (alloc_blk (three_set K u0 u1 u2) o)

theorem setal_1 {w : World} {b : Nat} {x y z : Value} {t : TypeId} (K : w.heap[b]? = some (.cells #[x, y, z] t (0, 0))) (u0 u1 u2 : Value) (o : Obj) :
    ((((w.setCell ⟨b, 0, none⟩ u0).setCell ⟨b, 1, none⟩ u1).setCell ⟨b, 2, none⟩ u2).alloc o).cell? ⟨b, 1, none⟩ = some u1 := cell_of_row _ _ 1 _ _ _ (alloc_blk (three_set K u0 u1 u2) o)

theorem setal_2 {w : World} {b : Nat} {x y z : Value} {t : TypeId} (K : w.heap[b]? = some (.cells #[x, y, z] t (0, 0))) (u0 u1 u2 : Value) (o : Obj) :
    ((((w.setCell ⟨b, 0, none⟩ u0).setCell ⟨b, 1, none⟩ u1).setCell ⟨b, 2, none⟩ u2).alloc o).cell? ⟨b, 2, none⟩ = some u2 := cell_of_row _ _ 2 _ _ _ (alloc_blk (three_set K u0 u1 u2) o)

theorem natAbs_quoV (n : Int) (g : Nat) : (quoV n g).natAbs = n.natAbs / g := by unfold quoV; generalize n.natAbs / g = q; split <;> omega

theorem quoV_le (n : Int) (g : Nat) : (quoV n g).natAbs ≤ n.natAbs := by rw [natAbs_quoV]; exact Nat.div_le_self _ _

theorem hoN_le (a b c t : Int) : (hoN a b c t).natAbs ≤ t.natAbs := by
  unfold hoN; split
  · exact quoV_le _ _
  · exact Nat.zero_le _

def HalfPost (w : World) (B g : Nat) (A : Option Addr) (n c : Nat) (e : Ending) (w' : World) : Prop :=
  ∃ p q r : Int, halfOkV p q r = true ∧ (-1000 ≤ r ∧ r ≤ 1000) ∧ e = .returned (.agg #[.int .i64 p, .int .i64 q, .int .i64 r]) ∧ CurAt w' B g A n c ∧ w.grownBy w' (some g)

def HalfMade (w : World) (e : Ending) (w' : World) : Prop :=
  ∃ p q r : Int, halfOkV p q r = true ∧ (-1000 ≤ r ∧ r ≤ 1000) ∧ e = .returned (.agg #[.int .i64 p, .int .i64 q, .int .i64 r]) ∧ Below w.heap.size w w'

def WholeMade (w : World) (e : Ending) (w' : World) : Prop :=
  ∃ p q : Int, -40 ≤ p ∧ p ≤ 39 ∧ -40 ≤ q ∧ q ≤ 39 ∧ e = .returned (.agg #[.int .i64 p, .int .i64 q, .int .i64 1]) ∧ Below w.heap.size w w'

end Go.Proofs.YtkmfejdmdiemaaaDoor
