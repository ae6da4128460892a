/- The walk of the law FnExactJoin, and its slice opened. -/
import Derived.Test.YtkcalnahiabejaaDoorJoin2
import Derived.SliceStrings
import Derived.Deep.Slices
namespace Go.Proofs.YtkcalnahiabejaaDoor
open Go.ChangeShapes Go.WideShapes Go.ChangeAt Go.RowKit
attribute [local go_sem ↓] Go.wp_at_zero Go.wp_at_succ
set_option linter.unusedVariables false

theorem iJoin_lit {j : ByteArray} (g n c : Nat) (ls : List ByteArray) (by_ : ByteArray) (w : World) (hO : OwnS w 0 (.slice (some ⟨g, 0, none⟩) n c) ls) (hs : sizes ls ≤ 1048576) (hl : n ≤ 1048576) (hb : by_.size ≤ 1048576) (hj : joinB ls by_ = j) :
    Calls Tryd.prog 18 #[.slice (some ⟨g, 0, none⟩) n c, .string by_] w fun e w' => e = .returned (.string j) ∧ Below w.heap.size w w' := by
  subst hj; exact iJoin_any g n c ls by_ w hO hs hl hb

section
open Go.ChangeShapes Go.WideShapes Go.Deep
variable {H : Type} {enc : TypeId × Value → H} {P : Program} {w : World} {spare : Nat → Bool} {held : Bool}

theorem open_strs' {t e : TypeId} (ht : P.underlying t = some (.slice e)) (he : P.underlying e = some .string) (hc : P.cellsOf e = 1)
    {v : Value} {d : DataW H} {p : List MemPlace} {b0 : Nat} (hv : Value.okWide P w .any b0 t v) (h : DataW.Trod enc P w 0 spare held t v d p) :
    ∃ (A : Option Addr) (n c : Nat) (ls : List ByteArray), v = .slice A n c ∧ n = ls.length ∧ n ≤ maxLen ∧ SsAt w w.heap.size A ls ∧ ∀ s ∈ ls, s.size ≤ maxLen := by
  obtain ⟨a, l, c, rfl⟩ := okWide_slice ht hv
  obtain ⟨fuel, hf⟩ := h
  rcases ChangeShapes.open_strings ht he hc hf with ⟨hcs, _⟩ | ⟨x, len, cap, ss, hcs, _, hl, hm, hz, _, hcell, hsz⟩
  · simp [Value.cells] at hcs
    obtain ⟨rfl, rfl, rfl⟩ := hcs
    exact ⟨none, 0, 0, [], rfl, rfl, Nat.zero_le _, .inl rfl, by simp⟩
  · simp [Value.cells] at hcs
    obtain ⟨rfl, rfl, rfl⟩ := hcs
    have hll : l ≤ ss.length := by rw [hz]; split <;> omega
    refine ⟨some x, l, c, ss.take l, rfl, by rw [List.length_take]; omega, by omega, ?_, fun s hs => hsz s (List.mem_of_mem_take hs)⟩
    rcases Nat.eq_zero_or_pos l with h0 | h0
    · subst h0; exact .inl (by simp)
    · obtain ⟨b, off, spot⟩ := x
      have hc0 := hcell 0 (by omega)
      have hspot : spot = none := by simpa [Addr.add] using World.cell?_spot hc0
      subst hspot
      have hadd : ∀ k : Nat, (Addr.add ⟨b, off, none⟩ k : Addr) = ⟨b, off + k, none⟩ := by
        intro k; unfold Addr.add; split <;> simp_all
      have hlt : b < w.heap.size := by
        rcases Nat.lt_or_ge b w.heap.size with h | h
        · exact h
        · simp [World.cell?, hadd, Array.getElem?_eq_none h] at hc0
      refine .inr ⟨b, off, rfl, hlt, fun k y hy => ?_⟩
      have hk : k < l := by
        rcases Nat.lt_or_ge k l with h | h
        · exact h
        · rw [List.getElem?_eq_none (by rw [List.length_take]; omega)] at hy; cases hy
      have := hcell k (by omega)
      rw [hadd] at this
      rw [this]
      rw [List.getElem?_take, if_pos hk] at hy
      simp [List.getD, hy]
end

end Go.Proofs.YtkcalnahiabejaaDoor
