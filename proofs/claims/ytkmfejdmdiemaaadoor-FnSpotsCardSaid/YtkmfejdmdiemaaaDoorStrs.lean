/- Slices of strings: what each helper of the laws does with them. -/
import Derived.Test.YtkmfejdmdiemaaaDoorNum
import Derived.Test.YtkmfejdmdiemaaaDoorSplP
namespace Go.Proofs.YtkmfejdmdiemaaaDoor
open Go.ChangeShapes Go.WideShapes Go.ChangeAt Go.RowKit
attribute [local go_sem ↓] Go.wp_at_zero Go.wp_at_succ
set_option linter.unusedVariables false

def SsAt (w : World) (B : Nat) (A : Option Addr) (ls : List ByteArray) : Prop :=
  ls = [] ∨ ∃ b off : Nat, A = some ⟨b, off, none⟩ ∧ b < B ∧ ∀ (k : Nat) (h : ByteArray), ls[k]? = some h → w.cell? ⟨b, off + k, none⟩ = some (.string h)

theorem SsAt.below {w w' : World} {B : Nat} {A : Option Addr} {ls : List ByteArray} (h : SsAt w B A ls) (hb : Below B w w') : SsAt w' B A ls := by
  rcases h with h | ⟨b, off, e, hlt, hc⟩
  · exact .inl h
  · exact .inr ⟨b, off, e, hlt, fun k x hx => (hb.cell (p := ⟨b, _, none⟩) hlt).trans (hc k x hx)⟩

theorem SsAt.more {w : World} {B B' : Nat} {A : Option Addr} {ls : List ByteArray} (h : SsAt w B A ls) (hB : B ≤ B') : SsAt w B' A ls := by
  rcases h with h | ⟨b, off, e, hlt, hc⟩
  · exact .inl h
  · exact .inr ⟨b, off, e, by omega, hc⟩

theorem SsAt.step {w w' : World} {A : Option Addr} {ls : List ByteArray} (h : SsAt w w.heap.size A ls) (hb : Below w.heap.size w w') : SsAt w' w'.heap.size A ls := (h.below hb).more hb.size

theorem SsAt.at_ {w : World} {B : Nat} {A : Option Addr} {ls : List ByteArray} (h : SsAt w B A ls) {k : Nat} (hk : k < ls.length) :
    ∃ b off : Nat, A = some ⟨b, off, none⟩ ∧ b < B ∧ w.cell? ⟨b, off + k, none⟩ = some (.string ls[k]) := by
  rcases h with h | ⟨b, off, e, hlt, hc⟩
  · subst h; simp at hk
  · exact ⟨b, off, e, hlt, hc k _ (List.getElem?_eq_getElem hk)⟩

theorem take_step' {α : Type} {l m : List α} {k : Nat} (h : l.take k = m.take k) (hk : k < l.length) (hk' : k < m.length) (he : l[k] = m[k]) : l.take (k + 1) = m.take (k + 1) := by
  rw [List.take_succ_eq_append_getElem hk, List.take_succ_eq_append_getElem hk', h, he]

theorem str_ne {x y : ByteArray} (h : ¬ x = y) : (x.toList == y.toList) = false := by
  rw [beq_eq_false_iff_ne, ByteArray.toList_eq, ByteArray.toList_eq]
  intro e
  exact h (ByteArray.ext (Array.ext' e))

end Go.Proofs.YtkmfejdmdiemaaaDoor
