/- The cursor of the makers of arguments: what each step leaves, for all byte slices. -/
import Derived.Test.YtkmfejdmdiemaaaDoorNum
namespace Go.Proofs.YtkmfejdmdiemaaaDoor
open Go.ChangeShapes Go.WideShapes Go.ChangeAt Go.RowKit
attribute [local go_sem ↓] Go.wp_at_zero Go.wp_at_succ
set_option linter.unusedVariables false

/-- A slice of bytes that came in: nothing is read of it, or each element reads as a byte, below block B. -/
def BytesAt (w : World) (B : Nat) (A : Option Addr) (n : Nat) : Prop :=
  n = 0 ∨ ∃ b off : Nat, A = some ⟨b, off, none⟩ ∧ b < B ∧ ∀ k, k < n → ∃ x : Int, w.cell? ⟨b, off + k, none⟩ = some (.int .u8 x) ∧ 0 ≤ x ∧ x ≤ 255

theorem BytesAt.below {w w' : World} {B : Nat} {A : Option Addr} {n : Nat} (h : BytesAt w B A n) (hb : Below B w w') : BytesAt w' B A n := by
  rcases h with h | ⟨b, off, e, hlt, hc⟩
  · exact .inl h
  · refine .inr ⟨b, off, e, hlt, fun k hk => ?_⟩
    obtain ⟨x, hx, h1, h2⟩ := hc k hk
    exact ⟨x, (hb.cell (p := ⟨b, off + k, none⟩) hlt).trans hx, h1, h2⟩

theorem BytesAt.mono {w : World} {B B' : Nat} {A : Option Addr} {n : Nat} (h : BytesAt w B A n) (hB : B ≤ B') : BytesAt w B' A n := by
  rcases h with h | ⟨b, off, e, hlt, hc⟩
  · exact .inl h
  · exact .inr ⟨b, off, e, by omega, hc⟩

theorem bytesAt_mk {w : World} {x : Addr} {len cap : Nat} {zs : List Int} (hl : len ≤ cap) (hz : zs.length = cap) (hcell : ∀ i, i < zs.length → w.cell? (x.add i) = some (.int .u8 (zs.getD i 0))) (hwz : ∀ n ∈ zs, (Lit.int .u8 n).wf = true) :
    BytesAt w w.heap.size (some x) len := by
  rcases Nat.eq_zero_or_pos len with h0 | h0
  · exact .inl h0
  · obtain ⟨b, off, spot⟩ := x
    have hc := hcell 0 (by omega)
    have hspot : spot = none := by simpa [Addr.add] using World.cell?_spot hc
    subst hspot
    have hadd : ∀ k : Nat, (Addr.add ⟨b, off, none⟩ k : Addr) = ⟨b, off + k, none⟩ := by
      intro k; unfold Addr.add; split <;> simp_all
    have hlt : b < w.heap.size := by
      rcases Nat.lt_or_ge b w.heap.size with h | h
      · exact h
      · simp [World.cell?, hadd, Array.getElem?_eq_none h] at hc
    refine .inr ⟨b, off, rfl, hlt, fun k hk => ⟨zs.getD k 0, by rw [← hadd]; exact hcell k (by omega), ?_⟩⟩
    have hm : zs.getD k 0 ∈ zs := by
      simp [List.getD, List.getElem?_eq_getElem (show k < zs.length by omega)]
    have := hwz _ hm
    generalize zs.getD k 0 = q at *
    simp [Lit.wf, IntKind.min, IntKind.max, IntKind.bits, IntKind.signed] at this
    omega

/-- The cursor in block g, over a slice of bytes that came in. -/
def CurAt (w : World) (B g : Nat) (A : Option Addr) (n c : Nat) : Prop :=
  B ≤ g ∧ n ≤ 1048576 ∧ BytesAt w B A n ∧ ∃ (i : Nat) (h : Int), i ≤ n ∧ w.heap[g]? = some (.cells #[.slice A n c, .int .i64 i, .int .i64 h] 87 (0, 0))

theorem heap_lt {w : World} {g : Nat} {o : Obj} (h : w.heap[g]? = some o) : g < w.heap.size := by
  rcases Nat.lt_or_ge g w.heap.size with hlt | hge
  · exact hlt
  · rw [Array.getElem?_eq_none hge] at h; cases h

theorem CurAt.lt {w : World} {B g : Nat} {A : Option Addr} {n c : Nat} (h : CurAt w B g A n c) : g < w.heap.size := by
  obtain ⟨_, _, _, i, k, _, hh⟩ := h; exact heap_lt hh

/-- New blocks, and writes to block g alone. -/
theorem grown_refl (w : World) (g : Option Nat) : w.grownBy w g := ⟨rfl, rfl, rfl, Nat.le_refl _, fun _ _ _ => rfl⟩

theorem grown_trans {w w1 w2 : World} {g : Option Nat} (h : w.grownBy w1 g) (k : w1.grownBy w2 g) : w.grownBy w2 g :=
  ⟨k.os.trans h.os, k.tape.trans h.tape, k.output.trans h.output, Nat.le_trans h.size k.size, fun b hb hn => (k.block b (Nat.lt_of_lt_of_le hb h.size) hn).trans (h.block b hb hn)⟩

theorem grown_drew {w w1 : World} {g : Option Nat} (h : w.grownBy w1 g) : w.grownBy w1.drew g := ⟨h.os, h.tape, h.output, h.size, h.block⟩

theorem grown_drewN {w w1 : World} {g : Option Nat} (h : w.grownBy w1 g) (n : Nat) : w.grownBy (w1.drewN n) g := ⟨h.os, h.tape, h.output, h.size, h.block⟩

theorem grown_alloc {w w1 : World} {g : Option Nat} (h : w.grownBy w1 g) (o : Obj) : w.grownBy (w1.alloc o) g :=
  ⟨h.os, h.tape, h.output, by rw [World.size_alloc]; have := h.size; omega, fun b hb hn => (Below.heap_alloc w1 o b (Nat.lt_of_lt_of_le hb h.size)).trans (h.block b hb hn)⟩

theorem grown_set {w w1 : World} {g : Nat} (h : w.grownBy w1 (some g)) {p : Addr} (hp : p.block = g) (u : Value) : w.grownBy (w1.setCell p u) (some g) := by
  refine ⟨h.os, h.tape, h.output, by rw [World.size_setCell]; exact h.size, fun b hb hn => ?_⟩
  rw [Below.heap_setCell w1 p u b (by rw [hp]; rintro rfl; exact hn rfl)]
  exact h.block b hb hn
/-- A store to a block that the call made. -/
theorem grown_own {w w1 : World} {g : Option Nat} (h : w.grownBy w1 g) {p : Addr} (hp : w.heap.size ≤ p.block) (u : Value) : w.grownBy (w1.setCell p u) g := by
  refine ⟨h.os, h.tape, h.output, by rw [World.size_setCell]; exact h.size, fun b hb hn => ?_⟩
  rw [Below.heap_setCell w1 p u b (by omega)]
  exact h.block b hb hn

theorem grown_below {w w1 : World} {B : Nat} {g : Option Nat} (h : w.grownBy w1 g) (hB : B ≤ w.heap.size) (hg : ∀ k, g = some k → B ≤ k) : Below B w w1 := (Below.refl B w).grown h hB hg

theorem grown_below_of {w w1 : World} {B g : Nat} (h : w.grownBy w1 (some g)) (hB : B ≤ g) (hg : g < w.heap.size) : Below B w w1 := grown_below h (by omega) (by intro k e; injection e with e; omega)

theorem below_grown {w w1 : World} {g : Option Nat} (h : Below w.heap.size w w1) : w.grownBy w1 g := ⟨h.os, h.tape, h.output, h.size, fun b hb _ => h.block b hb⟩

theorem grown_cell {w w1 : World} {g : Nat} (h : w.grownBy w1 (some g)) {b o : Nat} {v : Value} (hc : w.cell? ⟨b, o, none⟩ = some v) (hb : b < w.heap.size) (hne : b ≠ g) : w1.cell? ⟨b, o, none⟩ = some v :=
  (World.cell?_of_block (w := w) (h.block b hb (by intro e; injection e with e; exact hne e))).trans hc

theorem grown_frozen {w w1 : World} {g : Nat} (h : w.grownBy w1 (some g)) {b o : Nat} {v : Bool} (hc : w.frozen? ⟨b, o, none⟩ = v) (hb : b < w.heap.size) (hne : b ≠ g) : w1.frozen? ⟨b, o, none⟩ = v :=
  (World.frozen?_of_block (w := w) (h.block b hb (by intro e; injection e with e; exact hne e))).trans hc

theorem CurAt.kept {w w1 : World} {B g : Nat} {A : Option Addr} {n c : Nat} (h : CurAt w B g A n c) (hb : Below (g + 1) w w1) : CurAt w1 B g A n c := by
  obtain ⟨h1, h2, h3, i, k, hi, hh⟩ := h
  exact ⟨h1, h2, h3.below (hb.mono (by omega)), i, k, hi, (hb.block g (by omega)).trans hh⟩

end Go.Proofs.YtkmfejdmdiemaaaDoor
