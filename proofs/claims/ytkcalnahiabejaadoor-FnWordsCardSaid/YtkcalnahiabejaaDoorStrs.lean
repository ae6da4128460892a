/- Slices of strings: what each helper of the laws does with them. -/
import Derived.Test.YtkcalnahiabejaaDoorNum
import Derived.Test.YtkcalnahiabejaaDoorSplP
namespace Go.Proofs.YtkcalnahiabejaaDoor
open Go.ChangeShapes Go.WideShapes Go.ChangeAt Go.RowKit
attribute [local go_sem ↓] Go.wp_at_zero Go.wp_at_succ
set_option linter.unusedVariables false

def SsAt (w : World) (B : Nat) (A : Option Addr) (ls : List ByteArray) : Prop :=
  ls = [] ∨ ∃ b off : Nat, A = some ⟨b, off, none⟩ ∧ b < B ∧ ∀ (k : Nat) (h : ByteArray), ls[k]? = some h → w.cell? ⟨b, off + k, none⟩ = some (.string h)

theorem SsAt.below {w w' : World} {B : Nat} {A : Option Addr} {ls : List ByteArray} (h : SsAt w B A ls) (hb : Below B w w') : SsAt w' B A ls := by
  rcases h with h | ⟨b, off, e, hlt, hc⟩
  · exact .inl h
  · exact .inr ⟨b, off, e, hlt, fun k x hx => (hb.cell (p := ⟨b, _, none⟩) hlt).trans (hc k x hx)⟩

theorem SsAt.more {w : World} {B B' : Nat} {A : Option Addr} {ls : List ByteArray} (h : SsAt w B A ls) (hB : B ≤ B') : SsAt w B' A ls := by
  rcases h with h | ⟨b, off, e, hlt, hc⟩
  · exact .inl h
  · exact .inr ⟨b, off, e, by omega, hc⟩

theorem SsAt.step {w w' : World} {A : Option Addr} {ls : List ByteArray} (h : SsAt w w.heap.size A ls) (hb : Below w.heap.size w w') : SsAt w' w'.heap.size A ls := (h.below hb).more hb.size

theorem SsAt.at_ {w : World} {B : Nat} {A : Option Addr} {ls : List ByteArray} (h : SsAt w B A ls) {k : Nat} (hk : k < ls.length) :
    ∃ b off : Nat, A = some ⟨b, off, none⟩ ∧ b < B ∧ w.cell? ⟨b, off + k, none⟩ = some (.string ls[k]) := by
  rcases h with h | ⟨b, off, e, hlt, hc⟩
  · subst h; simp at hk
  · exact ⟨b, off, e, hlt, hc k _ (List.getElem?_eq_getElem hk)⟩

theorem take_step' {α : Type} {l m : List α} {k : Nat} (h : l.take k = m.take k) (hk : k < l.length) (hk' : k < m.length) (he : l[k] = m[k]) : l.take (k + 1) = m.take (k + 1) := by
  rw [List.take_succ_eq_append_getElem hk, List.take_succ_eq_append_getElem hk', h, he]

theorem str_ne {x y : ByteArray} (h : ¬ x = y) : (x.toList == y.toList) = false := by
  rw [beq_eq_false_iff_ne, ByteArray.toList_eq, ByteArray.toList_eq]
  intro e
  exact h (ByteArray.ext (Array.ext' e))

set_option maxHeartbeats 1000000 in
theorem eqStringS_any (A A' : Option Addr) (n n' c c' : Nat) (ls ls' : List ByteArray) (w : World) (hn : n = ls.length) (hn' : n' = ls'.length) (hA : SsAt w w.heap.size A ls) (hA' : SsAt w w.heap.size A' ls') (hm : n ≤ 4611686018427387904) (hm' : n' ≤ 4611686018427387904) :
    Calls Tryd.prog 9 #[.slice A n c, .slice A' n' c'] w fun e w' => e = .returned (.bool (decide (ls = ls'))) ∧ Below w.heap.size w w' := by
  have HA := Lib.hid hA; clear hA
  have HA' := Lib.hid hA'; clear hA'
  by_cases he : n = n'
  · subst he
    have HN := Lib.hid hn; clear hn
    have HN' := Lib.hid hn'; clear hn'
    go_enter Tryd.func9, Tryd.ntmps9
    go_wp2
    go_loopw [5] (fun i wr => ∃ k : Nat, k ≤ n ∧ i = .int .i64 k ∧ RowKit.Hid (ls.take k = ls'.take k) ∧ Below w.heap.size w wr) (fun i _ => n - (intOf i).toNat)
    case atStart => exact ⟨0, Nat.zero_le _, rfl, rfl, Below.refl _ _⟩
    case round =>
      obtain ⟨k, hk, rfl, HE, hb⟩ := hrel
      by_cases hlt : k < n
      · have hl1 : k < ls.length := by have := HN.out; omega
        have hl2 : k < ls'.length := by have := HN'.out; omega
        obtain ⟨b, off, rfl, hlb, c0⟩ := (HA.out.below hb).at_ hl1
        obtain ⟨b', off', rfl, hlb', d0⟩ := (HA'.out.below hb).at_ hl2
        have hz := hb.size
        have hx : ls[k] = ls'[k] → RowKit.Hid (ls.take (k + 1) = ls'.take (k + 1)) := fun e => take_step' HE.out hl1 hl2 e
        have hy : ¬ ls[k] = ls'[k] → RowKit.Hid (decide (ls = ls') = false) := fun e => by
          refine decide_eq_false (fun h => e ?_); subst h; rfl
        generalize ls[k] = x at *
        generalize ls'[k] = y at *
        by_cases e0 : x = y
        · subst e0
          have HF := hx rfl
          clear hx hy
          go_wp2_with fail
          go_quiet (fail)
          go_wp2_with fail
          go_roundw
          case rel => exact ⟨k + 1, by omega, by go_num, HF, (by repeat (first | exact Below.refl _ _ | assumption | refine below_drewN ?_ _ | refine Below.drew ?_ | refine Below.alloc ?_ (by first | omega | (simp <;> omega)) _ | refine Below.setCell ?_ (by first | omega | (simp <;> omega)) _))⟩
          case measure => simp [intOf]; omega
        · have HF := hy e0
          have hE : (x.toList == y.toList) = false := str_ne e0
          clear hx hy
          go_wp2_with fail
          go_quiet (fail)
          go_wp2_with fail
          go_ret
          exact ⟨ret_bool HF.out.symm, (by repeat (first | exact Below.refl _ _ | assumption | refine below_drewN ?_ _ | refine Below.drew ?_ | refine Below.alloc ?_ (by first | omega | (simp <;> omega)) _ | refine Below.setCell ?_ (by first | omega | (simp <;> omega)) _))⟩
      · have HF := Lib.hid (show decide (ls = ls') = true by
          refine decide_eq_true ?_
          have e := HE.out
          rwa [List.take_of_length_le (by have := HN.out; omega), List.take_of_length_le (by have := HN'.out; omega)] at e)
        go_wp2
        go_ret
        exact ⟨ret_bool HF.out.symm, hb⟩
  · have HF := Lib.hid (show decide (ls = ls') = false by
      refine decide_eq_false (fun h => he ?_); subst h; omega)
    clear hn hn'
    go_enter Tryd.func9, Tryd.ntmps9
    go_wp2
    go_ret
    exact ⟨ret_bool HF.out.symm, (by repeat (first | exact Below.refl _ _ | assumption | refine below_drewN ?_ _ | refine Below.drew ?_ | refine Below.alloc ?_ (by first | omega | (simp <;> omega)) _ | refine Below.setCell ?_ (by first | omega | (simp <;> omega)) _))⟩

end Go.Proofs.YtkcalnahiabejaaDoor
