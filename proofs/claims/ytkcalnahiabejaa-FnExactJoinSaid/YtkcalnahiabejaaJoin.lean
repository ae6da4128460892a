/- Join, of the program and of the reference, and what the law does with its slices. -/
import Derived.Test.YtkcalnahiabejaaSplW
import Derived.Lib.Join
namespace Go.Proofs.Ytkcalnahiabejaa
open Go.ChangeShapes Go.WideShapes Go.ChangeAt Go.RowKit
attribute [local go_sem ↓] Go.wp_at_zero Go.wp_at_succ
set_option linter.unusedVariables false

def sizes (ls : List ByteArray) : Nat := (ls.map (·.size)).sum

theorem sizes_take_succ {ls : List ByteArray} {k : Nat} (h : k < ls.length) : sizes (ls.take (k + 1)) = sizes (ls.take k) + ls[k].size := by
  unfold sizes
  rw [List.take_succ_eq_append_getElem h, List.map_append, List.sum_append]
  simp

theorem sizes_take_le (ls : List ByteArray) (k : Nat) : sizes (ls.take k) ≤ sizes ls := by
  induction ls generalizing k with
  | nil => simp
  | cons x r ih =>
    cases k with
    | zero => simp [sizes]
    | succ k => have := ih k; simp only [sizes, List.take_succ_cons, List.map_cons, List.sum_cons] at this ⊢; omega

def leftS (q : Int) (ls : List ByteArray) : Int := if q < ls.length + sizes ls then -1 else q - ls.length - sizes ls

set_option maxHeartbeats 1000000 in
theorem szStringS_any (A : Option Addr) (n c : Nat) (q : Int) (ls : List ByteArray) (w : World) (hn : n = ls.length) (hA : SsAt w w.heap.size A ls) (hq0 : 0 ≤ q) (hq : q ≤ 1048576) (hm : n ≤ 9223372036854775807) (hsz : ∀ s ∈ ls, s.size ≤ 9223372036854775807) :
    Calls Try.prog 11 #[.slice A n c, .int .i64 q] w fun e w' => e = .returned (.int .i64 (leftS q ls)) ∧ Below w.heap.size w w' := by
  have HA := Lib.hid hA; clear hA
  have HN := Lib.hid hn; clear hn
  have HZ := Lib.hid hsz; clear hsz
  by_cases h0 : q < n
  · have HV := Lib.hid (show leftS q ls = -1 by unfold leftS; rw [if_pos (by have := HN.out; omega)])
    go_enter Try.func11, Try.ntmps11
    go_wp2_with fail
    go_ret
    exact ⟨ret_int HV.out.symm, (by repeat (first | exact Below.refl _ _ | assumption | refine below_drewN ?_ _ | refine Below.drew ?_ | refine Below.alloc ?_ (by first | omega | (simp <;> omega)) _ | refine Below.setCell ?_ (by first | omega | (simp <;> omega)) _))⟩
  · go_enter Try.func11, Try.ntmps11
    go_wp2_with fail
    go_loopw [1, 5] (fun l i wr => ∃ k : Nat, k ≤ n ∧ i = .int .i64 k ∧ l = .int .i64 (q - n - sizes (ls.take k)) ∧ (sizes (ls.take k) : Int) ≤ q - n ∧ wr = w) (fun _ i _ => n - (intOf i).toNat)
    case atStart => exact ⟨0, Nat.zero_le _, rfl, by simp [sizes], by simp [sizes]; omega, rfl⟩
    case round =>
      obtain ⟨k, hk, rfl, rfl, hs, rfl⟩ := hrel
      by_cases hlt : k < n
      · have hl1 : k < ls.length := by have := HN.out; omega
        obtain ⟨b, off, rfl, hlb, c0⟩ := HA.out.at_ hl1
        have hx := sizes_take_succ hl1
        have hzk := HZ.out ls[k] (List.getElem_mem _)
        have hle := sizes_take_le ls (k + 1)
        have HX := Lib.hid hx
        have HL := Lib.hid hle
        generalize ls[k] = x at *
        generalize hS0 : sizes (ls.take k) = S0 at *
        clear hx hle
        by_cases hneg : q - n - S0 - x.size < 0
        · have HV := Lib.hid (show leftS q ls = -1 by
            unfold leftS
            have a := HX.out
            have b := HL.out
            have c := HN.out
            rw [if_pos (by omega)])
          go_wp2_with fail
          go_ret
          exact ⟨ret_int HV.out.symm, (by repeat (first | exact Below.refl _ _ | assumption | refine below_drewN ?_ _ | refine Below.drew ?_ | refine Below.alloc ?_ (by first | omega | (simp <;> omega)) _ | refine Below.setCell ?_ (by first | omega | (simp <;> omega)) _))⟩
        · go_wp2_with fail
          go_roundw
          case rel => exact ⟨k + 1, by omega, by go_num, by rw [HX.out]; congr 1; omega, by rw [HX.out]; omega, by first | rfl | trivial⟩
          case measure => simp [intOf]; omega
      · have hk' : k = n := by omega
        have HV := Lib.hid (show leftS q ls = q - n - sizes (ls.take k) by
          have c := HN.out
          unfold leftS
          rw [List.take_of_length_le (by omega)]
          rw [List.take_of_length_le (by omega)] at hs
          rw [if_neg (by omega)]; omega)
        generalize sizes (ls.take k) = S0 at *
        go_wp2_with fail
        go_ret
        exact ⟨ret_int HV.out.symm, (by repeat (first | exact Below.refl _ _ | assumption | refine below_drewN ?_ _ | refine Below.drew ?_ | refine Below.alloc ?_ (by first | omega | (simp <;> omega)) _ | refine Below.setCell ?_ (by first | omega | (simp <;> omega)) _))⟩

theorem zeros_strs (n : Nat) : (madeCells #[Value.string ByteArray.empty] n).toList = strV (List.replicate n ByteArray.empty) := by
  unfold strV
  rw [List.map_replicate, List.eq_replicate_iff]
  refine ⟨by simp [size_madeCells], fun v hv => ?_⟩
  unfold madeCells at hv
  simp only [Array.toList_map, List.mem_map] at hv
  obtain ⟨i, _, rfl⟩ := hv
  show (#[Value.string ByteArray.empty] : Array Value)[i % 1]! = _
  rw [Nat.mod_one]; rfl

theorem take_set_stepS {ls ls' : List ByteArray} {k : Nat} (hl : ls'.length = ls.length) (h : ls'.take k = ls.take k) (hk : k < ls.length) : (ls'.set k ls[k]).take (k + 1) = ls.take (k + 1) := by
  rw [List.take_succ_eq_append_getElem (by simpa [hl] using hk), List.take_succ_eq_append_getElem hk]
  rw [List.take_set_of_le (by omega), h]
  simp

set_option maxHeartbeats 1000000 in
theorem toStringS_any (A : Option Addr) (n c : Nat) (ls : List ByteArray) (w : World) (hn : n = ls.length) (hA : SsAt w w.heap.size A ls) (hl : n ≤ 1048576) :
    Calls Try.prog 13 #[.slice A n c] w (MadeS ls w) := by
  obtain ⟨i0, hi0, hz0, hz1, hz2⟩ := info_parts infoS
  have HA := Lib.hid hA; clear hA
  have HN := Lib.hid hn; clear hn
  have hb2' : i0.bytes * n ≤ 281474976710656 := by rw [hz2]; omega
  have hb3' : n ≤ maxLen := by unfold maxLen; omega
  go_enter Try.func13, Try.ntmps13
  go_wp2_with (at_make; refine wpList_make_full _ rfl (.tmp 6) (.tmp 6) 22 rfl w.heap.size 9 i0 (.string ByteArray.empty) 1 Try.underlying22 hi0 hz0 hz1 .i64 .i64 (n : Int) (n : Int) n rfl rfl rfl rfl hb2' hb3' (Nat.le_refl _) ?_)
  intro w1 hown hgrow
  rw [zeros_strs] at hown
  have HO : RowKit.Hid (OwnS w1 w.heap.size (.slice (some ⟨w.heap.size, 0, none⟩) n n) (List.replicate n ByteArray.empty)) := by unfold RowKit.Hid OwnS; rw [List.length_replicate]; exact hown
  have HB : RowKit.Hid (Below w.heap.size w w1) := Lib.hid ((Below.refl _ _).grown hgrow (Nat.le_refl _) (by intro k e; cases e))
  clear hown hgrow
  go_wp2_with fail
  go_loopw [4] (fun i wr => ∃ (k : Nat) (ls' : List ByteArray), k ≤ n ∧ i = .int .i64 k ∧ RowKit.Hid (ls'.length = ls.length) ∧ RowKit.Hid (ls'.take k = ls.take k) ∧ RowKit.Hid (OwnS wr w.heap.size (.slice (some ⟨w.heap.size, 0, none⟩) n n) ls') ∧ Below w.heap.size w wr) (fun i _ => n - (intOf i).toNat)
  case atStart => exact ⟨0, List.replicate n ByteArray.empty, Nat.zero_le _, rfl, (List.length_replicate ..).trans HN.out, rfl, HO.out, HB.out⟩
  case round =>
    obtain ⟨k, ls', hk, rfl, HL, HT, HR, hb⟩ := hrel
    have hsz := hb.size
    by_cases hlt : k < n
    · have hl1 : k < ls.length := by have := HN.out; omega
      have hl2 : k < ls'.length := by have := HL.out; omega
      obtain ⟨b, off, rfl, hlb, c0⟩ := (HA.out.below hb).at_ hl1
      have e1 := HN.out
      have e2 := HL.out
      have hRo : wr.ownsRow w.heap.size 9 1 (.slice (some ⟨w.heap.size, 0, none⟩) n n) n (strV ls') := by
        have := HR.out; unfold OwnS at this; rw [e2, ← e1] at this; exact this
      have d0 := (hRo.cellAt k (by omega)).trans (strV_get (List.getElem?_eq_getElem hl2))
      have z0 := hRo.frozenAt k
      clear hRo e1 e2
      have HX := Lib.hid (take_set_stepS HL.out HT.out hl1)
      generalize hxk : ls[k] = x at *
      go_wp2_with fail
      go_roundw
      case rel =>
        obtain ⟨r1, r2⟩ := HR.out.store (HN.out.trans HL.out.symm) (k := k) x
        exact ⟨k + 1, ls'.set k x, by omega, by go_num, (List.length_set ..).trans HL.out, HX.out, r1, hb.grown r2 hb.size (by intro q e; injection e with e; omega)⟩
      case measure => simp [intOf]; omega
    · have hk' : k = n := by omega
      subst hk'
      go_wp2_with fail
      go_ret
      have e1 := HN.out
      have e2 : ls' = ls := by
        have := HT.out
        rwa [List.take_of_length_le (by have := HL.out; omega), List.take_of_length_le (by omega)] at this
      subst e2
      refine ⟨w.heap.size, k, ?_, ?_, Nat.le_refl _, hb⟩
      · show Ending.returned (.slice (some ⟨w.heap.size, 0, none⟩) k k) = _
        rw [← e1]
      · have := HR.out
        rwa [← e1]

end Go.Proofs.Ytkcalnahiabejaa
