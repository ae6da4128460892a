/- The walk of the law FnExactJoin, and its slice opened. -/
import Derived.Test.YtkcalnahiabejaaJoin2
import Derived.SliceStrings
import Derived.Deep.Slices
namespace Go.Proofs.Ytkcalnahiabejaa
open Go.ChangeShapes Go.WideShapes Go.ChangeAt Go.RowKit
attribute [local go_sem ↓] Go.wp_at_zero Go.wp_at_succ
set_option linter.unusedVariables false

theorem szStringS_lit {v : Int} (A : Option Addr) (n c : Nat) (q : Int) (ls : List ByteArray) (w : World) (hn : n = ls.length) (hA : SsAt w w.heap.size A ls) (hq0 : 0 ≤ q) (hq : q ≤ 1048576) (hm : n ≤ 9223372036854775807) (hsz : ∀ s ∈ ls, s.size ≤ 9223372036854775807) (hv : leftS q ls = v) :
    Calls Try.prog 11 #[.slice A n c, .int .i64 q] w fun e w' => e = .returned (.int .i64 v) ∧ Below w.heap.size w w' := by
  subst hv; exact szStringS_any A n c q ls w hn hA hq0 hq hm hsz

theorem iJoin_lit {j : ByteArray} (g n c : Nat) (ls : List ByteArray) (by_ : ByteArray) (w : World) (hO : OwnS w 0 (.slice (some ⟨g, 0, none⟩) n c) ls) (hs : sizes ls ≤ 1048576) (hl : n ≤ 1048576) (hb : by_.size ≤ 1048576) (hj : joinB ls by_ = j) :
    Calls Try.prog 14 #[.slice (some ⟨g, 0, none⟩) n c, .string by_] w fun e w' => e = .returned (.string j) ∧ Below w.heap.size w w' := by
  subst hj; exact iJoin_any g n c ls by_ w hO hs hl hb

theorem sJoin_lit {j : ByteArray} (A : Option Addr) (n c : Nat) (ls : List ByteArray) (by_ : ByteArray) (w : World) (hn : n = ls.length) (hA : SsAt w w.heap.size A ls) (hs : sizes ls ≤ 1048576) (hl : n ≤ 1048576) (hb : by_.size ≤ 1048576) (hj : joinB ls by_ = j) :
    Calls Try.prog 12 #[.slice A n c, .string by_] w fun e w' => e = .returned (.string j) ∧ Below w.heap.size w w' := by
  subst hj; exact (sJoin_any A n c ls by_ w hn hA hs hl hb).mono fun e w' ⟨he, hw⟩ => ⟨he, by subst hw; exact Below.refl _ _⟩

set_option maxHeartbeats 1000000 in
theorem exJoin_walk (A : Option Addr) (n c : Nat) (ls : List ByteArray) (by_ : ByteArray) (hb : by_.size ≤ maxLen) (w : World) (hn : n = ls.length) (hm : n ≤ maxLen) (hA : SsAt w w.heap.size A ls) (hsz : ∀ s ∈ ls, s.size ≤ maxLen) :
    Calls Try.prog 4 #[.slice A n c, .string by_] w fun e w' => e = .returned (.bool true) ∧ Below w.heap.size w w' := by
  unfold maxLen at hb hm hsz
  have HA := Lib.hid hA; clear hA
  have HN := Lib.hid hn; clear hn
  have HZ := Lib.hid (show ∀ s ∈ ls, s.size ≤ 9223372036854775807 from fun s hs => by have := hsz s hs; omega)
  clear hsz
  by_cases hy : 1048576 < by_.size
  · go_enter Try.func4, Try.ntmps4
    go_wp2
    go_ret
    exact ⟨rfl, (by repeat (first | exact Below.refl _ _ | assumption | refine below_drewN ?_ _ | refine Below.drew ?_ | refine Below.alloc ?_ (by first | omega | (simp <;> omega)) _ | refine Below.setCell ?_ (by first | omega | (simp <;> omega)) _))⟩
  · by_cases hq : (1048576 : Int) < ls.length + sizes ls
    · have HV := Lib.hid (show leftS 1048576 ls = -1 by unfold leftS; exact if_pos hq)
      go_enter Try.func4, Try.ntmps4
      go_wp2_with fail
      go_at_call 11; refine (szStringS_lit _ _ _ _ ls _ HN.out HA.out (by decide) (by decide) (by omega) HZ.out HV.out).mono ?_; rintro e w1 ⟨rfl, hb1⟩
      go_wp2_with fail
      go_ret
      exact ⟨rfl, hb1⟩
    · have hl : n ≤ 1048576 := by have := HN.out; omega
      have hs : sizes ls ≤ 1048576 := by omega
      have HV := Lib.hid (show leftS 1048576 ls = 1048576 - ls.length - sizes ls by unfold leftS; exact if_neg hq)
      obtain ⟨j, hj⟩ : ∃ j, joinB ls by_ = j := ⟨_, rfl⟩
      have HJ := Lib.hid hj
      clear hj
      have hl' : ls.length ≤ 1048576 := by have := HN.out; omega
      have hnn : ¬ (1048576 - (ls.length : Int) - sizes ls < 0) := by omega
      generalize hS : sizes ls = S at *
      have hS' : sizes ls ≤ 1048576 := by omega
      clear hS
      go_enter Try.func4, Try.ntmps4
      go_wp2_with fail
      go_at_call 11; refine (szStringS_lit _ _ _ _ ls _ HN.out HA.out (by decide) (by decide) (by omega) HZ.out HV.out).mono ?_; rintro e w1 ⟨rfl, hb1⟩
      have B1 := Lib.hid hb1
      have hz1 := hb1.size
      clear hb1
      go_wp2_with fail
      go_at_call 13; refine (toStringS_any _ _ _ ls _ HN.out (HA.out.step B1.out) hl).mono ?_; rintro e w2 ⟨g2, c2, rfl, hO2, hg2, hb2⟩
      have R2 := Lib.hid hO2.of_len
      have B2 := Lib.hid (B1.out.trans (hb2.mono hz1))
      have hz2 := B2.out.size
      clear hO2 hb2 B1 hz1
      go_wp2_with fail
      go_at_call 12; refine (sJoin_lit _ _ _ ls by_ _ rfl R2.out hS' hl' (by omega) HJ.out).mono ?_; rintro e w3 ⟨rfl, hb3⟩
      have B3 := Lib.hid (B2.out.trans (hb3.mono hz2))
      have hz3 := B3.out.size
      clear hb3 B2 hz2
      go_wp2_with fail
      go_at_call 13; refine (toStringS_any _ _ _ ls _ HN.out (HA.out.step B3.out) hl).mono ?_; rintro e w4 ⟨g4, c4, rfl, hO4, hg4, hb4⟩
      have O4 := Lib.hid hO4
      have B4 := Lib.hid (B3.out.trans (hb4.mono hz3))
      have hz4 := B4.out.size
      clear hO4 hb4 B3 hz3
      go_wp2_with fail
      go_at_call 14; refine (iJoin_lit g4 ls.length c4 ls by_ _ (O4.out.less (Nat.zero_le _)) hS' hl' (by omega) HJ.out).mono ?_; rintro e w5 ⟨rfl, hb5⟩
      have O5 := Lib.hid (O4.out.kept hb5)
      have B5 := Lib.hid (B4.out.trans (hb5.mono hz4))
      have hz5 := B5.out.size
      clear hb5 B4 O4 hz4
      go_wp2_with fail
      go_at_call 13; refine (toStringS_any _ _ _ ls _ HN.out (HA.out.step B5.out) hl).mono ?_; rintro e w6 ⟨g6, c6, rfl, hO6, hg6, hb6⟩
      have R6 := Lib.hid (O5.out.of_len.step hb6)
      have O6 := Lib.hid hO6
      have B6 := Lib.hid (B5.out.trans (hb6.mono hz5))
      have hz6 := B6.out.size
      clear hO6 hb6 B5 hz5
      go_wp2_with fail
      go_at_call 8; refine (eqStringS_same _ _ _ _ _ _ ls _ rfl rfl R6.out O6.out.of_len (by omega)).mono ?_; rintro e w7 ⟨rfl, hb7⟩
      go_wp2_with fail
      go_ret
      exact ⟨rfl, B6.out.trans (hb7.mono hz6)⟩

section
open Go.ChangeShapes Go.WideShapes Go.Deep
variable {H : Type} {enc : TypeId × Value → H} {P : Program} {w : World} {spare : Nat → Bool} {held : Bool}

theorem open_strs' {t e : TypeId} (ht : P.underlying t = some (.slice e)) (he : P.underlying e = some .string) (hc : P.cellsOf e = 1)
    {v : Value} {d : DataW H} {p : List MemPlace} {b0 : Nat} (hv : Value.okWide P w .any b0 t v) (h : DataW.Trod enc P w 0 spare held t v d p) :
    ∃ (A : Option Addr) (n c : Nat) (ls : List ByteArray), v = .slice A n c ∧ n = ls.length ∧ n ≤ maxLen ∧ SsAt w w.heap.size A ls ∧ ∀ s ∈ ls, s.size ≤ maxLen := by
  obtain ⟨a, l, c, rfl⟩ := okWide_slice ht hv
  obtain ⟨fuel, hf⟩ := h
  rcases ChangeShapes.open_strings ht he hc hf with ⟨hcs, _⟩ | ⟨x, len, cap, ss, hcs, _, hl, hm, hz, _, hcell, hsz⟩
  · simp [Value.cells] at hcs
    obtain ⟨rfl, rfl, rfl⟩ := hcs
    exact ⟨none, 0, 0, [], rfl, rfl, Nat.zero_le _, .inl rfl, by simp⟩
  · simp [Value.cells] at hcs
    obtain ⟨rfl, rfl, rfl⟩ := hcs
    have hll : l ≤ ss.length := by rw [hz]; split <;> omega
    refine ⟨some x, l, c, ss.take l, rfl, by rw [List.length_take]; omega, by omega, ?_, fun s hs => hsz s (List.mem_of_mem_take hs)⟩
    rcases Nat.eq_zero_or_pos l with h0 | h0
    · subst h0; exact .inl (by simp)
    · obtain ⟨b, off, spot⟩ := x
      have hc0 := hcell 0 (by omega)
      have hspot : spot = none := by simpa [Addr.add] using World.cell?_spot hc0
      subst hspot
      have hadd : ∀ k : Nat, (Addr.add ⟨b, off, none⟩ k : Addr) = ⟨b, off + k, none⟩ := by
        intro k; unfold Addr.add; split <;> simp_all
      have hlt : b < w.heap.size := by
        rcases Nat.lt_or_ge b w.heap.size with h | h
        · exact h
        · simp [World.cell?, hadd, Array.getElem?_eq_none h] at hc0
      refine .inr ⟨b, off, rfl, hlt, fun k y hy => ?_⟩
      have hk : k < l := by
        rcases Nat.lt_or_ge k l with h | h
        · exact h
        · rw [List.getElem?_eq_none (by rw [List.length_take]; omega)] at hy; cases hy
      have := hcell k (by omega)
      rw [hadd] at this
      rw [this]
      rw [List.getElem?_take, if_pos hk] at hy
      simp [List.getD, hy]
end

end Go.Proofs.Ytkcalnahiabejaa
