/- Marks: the text of a number, slices of strings marked and read again. -/
import Derived.Test.YtkmfejdmdiemaaaDoorStrs2
import Derived.Test.YtkmfejdmdiemaaaDoorQb
import Derived.Laws.IdiomStrings
namespace Go.Proofs.YtkmfejdmdiemaaaDoor
open Go.ChangeShapes Go.WideShapes Go.ChangeAt Go.RowKit
attribute [local go_sem ↓] Go.wp_at_zero Go.wp_at_succ
set_option linter.unusedVariables false

/-- A moment of the digits' loop: j is what is left, r is what was written. -/
def DigAt (n j : Nat) (r : List UInt8) : Prop := (j = 0 → r = Lib.decDigits n) ∧ (0 < j → Lib.decDigits j ++ r = Lib.decDigits n) ∧ j ≤ n

theorem digAt_start (n : Nat) (h : 0 < n) : DigAt n n [] := ⟨fun e => by omega, fun _ => by simp, Nat.le_refl _⟩

theorem digAt_step {n j : Nat} {r : List UInt8} (h : DigAt n j r) (hj : 0 < j) : DigAt n (j / 10) ([UInt8.ofNat (48 + j % 10)] ++ r) := by
  obtain ⟨_, h2, h3⟩ := h
  have h2 := h2 hj
  refine ⟨fun e => ?_, fun hp => ?_, by omega⟩
  · rw [dec_small (by omega)] at h2
    rw [show j % 10 = j by omega]; exact h2
  · rw [dec_big (by omega)] at h2
    simpa using h2

theorem digAt_len {n j : Nat} {r : List UInt8} (h : DigAt n j r) (hn : n ≤ 9223372036854775807) : r.length ≤ 20 := by
  have hd : (Lib.decDigits n).length ≤ 20 := by rw [Lib.decDigits_length]; exact Lib.nDigits_le20 n (by omega)
  rcases Nat.eq_zero_or_pos j with e | hp
  · rw [h.1 e]; exact hd
  · have := congrArg List.length (h.2.1 hp)
    rw [List.length_append] at this
    omega

theorem conv1 {P : Program} (w : World) (src dst e : TypeId) (g c : Nat) (v : Int) (b : UInt8) (hs : P.underlying src = some (.slice e)) (he : P.underlying e = some (.int .u8)) (hd : P.underlying dst = some .string)
    (hv : v = b.toNat) (hc : w.cell? ⟨g, 0, none⟩ = some (.int .u8 v)) : (convert src dst (.slice (some ⟨g, 0, none⟩) 1 c)).run P w = .ok (.string (bs [b])) w := by
  subst hv
  refine run_convert_bytes_back w src dst e ⟨g, 0, none⟩ c [b] hs he hd (fun j hj => ?_)
  have hj : j = 0 := by simpa using hj
  subst hj
  exact hc

def MarkPostS (ls : List ByteArray) (v : Value) (m B g : Nat) (w : World) (e : Ending) (w' : World) : Prop :=
  ∃ ls' : List ByteArray, ls'.length = ls.length ∧ e = .returned (.int .i64 (m + ls.length)) ∧ OwnS w' B v ls' ∧ MarkedS ls' m ls.length ∧ w.grownBy w' (some g)

theorem growS_refl (w : World) (g : Option Nat) : w.grownBy w g := ⟨rfl, rfl, rfl, Nat.le_refl _, fun _ _ _ => rfl⟩

theorem growS_trans {w w1 w2 : World} {g : Option Nat} (h : w.grownBy w1 g) (k : w1.grownBy w2 g) : w.grownBy w2 g :=
  ⟨k.os.trans h.os, k.tape.trans h.tape, k.output.trans h.output, Nat.le_trans h.size k.size, fun b hb hne => (k.block b (Nat.lt_of_lt_of_le hb h.size) hne).trans (h.block b hb hne)⟩

theorem growS_below {w w1 : World} {g : Option Nat} (h : Below w.heap.size w w1) : w.grownBy w1 g := ⟨h.os, h.tape, h.output, h.size, fun b hb _ => h.block b hb⟩

end Go.Proofs.YtkmfejdmdiemaaaDoor
