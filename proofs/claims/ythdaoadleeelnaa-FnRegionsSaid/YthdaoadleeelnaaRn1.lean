/- areHalves of the program: are all half planes valid? -/
import Derived.Test.YthdaoadleeelnaaHalf
import Derived.Test.YthdaoadleeelnaaHs
import Derived.Test.YthdaoadleeelnaaFrm
namespace Go.Proofs.Ythdaoadleeelnaa
open Go.ChangeShapes Go.WideShapes Go.ChangeAt Go.RowKit
attribute [local go_sem ↓] Go.wp_at_zero Go.wp_at_succ
set_option linter.unusedVariables false

def okH (h : Hp) : Bool := halfOkV h.1 h.2.1 h.2.2

theorem halfOk_lit' {a b c : Int} {v : Bool} (h : halfOkV a b c = v) (w : World) :
    Calls Try.prog 63 #[.agg #[.int .i64 a, .int .i64 b, .int .i64 c]] w fun e w' => e = .returned (.bool v) ∧ Below w.heap.size w w' := by
  rw [← h]; exact iHalfOk_any a b c w

theorem all_step {hs : List Hp} {k : Nat} (h : (hs.take k).all okH = true) (hk : k < hs.length) (ho : okH hs[k] = true) : (hs.take (k + 1)).all okH = true := by
  rw [List.take_succ_eq_append_getElem hk, List.all_append, h]; simp [ho]

theorem all_not {hs : List Hp} {k : Nat} (hk : k < hs.length) (ho : okH hs[k] = false) : hs.all okH = false := by
  rw [List.all_eq_false]; exact ⟨hs[k], List.getElem_mem hk, by rw [ho]; simp⟩

theorem all_end {hs : List Hp} {k : Nat} (h : (hs.take k).all okH = true) (hk : ¬ k < hs.length) : hs.all okH = true := by
  rwa [List.take_of_length_le (by omega)] at h

set_option maxHeartbeats 1000000 in
set_option maxRecDepth 100000 in
theorem areHalves_any (A : Option Addr) (n c : Nat) (hs : List Hp) (w : World) (hn : n = hs.length) (hA : HsAt w w.heap.size A hs) (hm : n ≤ 1048576) :
    Calls Try.prog 51 #[.slice A n c] w fun e w' => e = .returned (.bool (hs.all okH)) ∧ Below w.heap.size w w' := by
  have HA := Lib.hid hA; clear hA
  have HN := Lib.hid hn; clear hn
  go_enter Try.func51, Try.ntmps51
  go_wp2_with fail
  go_loopw [7] (fun i wr => ∃ k : Nat, k ≤ n ∧ i = .int .i64 k ∧ RowKit.Hid ((hs.take k).all okH = true) ∧ Below w.heap.size w wr) (fun i _ => n - (intOf i).toNat)
  case atStart => exact ⟨0, Nat.zero_le _, rfl, (rfl : List.all [] okH = true), Below.refl _ _⟩
  case round =>
    obtain ⟨k, hk, rfl, HE, hb⟩ := hrel
    have hsz := hb.size
    by_cases hlt : k < n
    · have hl1 : k < hs.length := by have := HN.out; omega
      obtain ⟨b, off, rfl, hlb, c0, c1, c2⟩ := (HA.out.below hb).at_ hl1
      have hlb' : b < wr.heap.size := by omega
      cases ho : okH hs[k]
      · have HV := Lib.hid (all_not hl1 ho)
        unfold okH at ho
        generalize hs[k] = x at *
        obtain ⟨x0, x1, x2⟩ := x
        simp only at c0 c1 c2 ho
        have HO := Lib.hid ho; clear ho
        go_wp2_with fail
        go_at_call 63; (with_reducible refine (halfOk_lit' HO.out _).mono ?_); rintro e w1 ⟨rfl, hb1⟩
        have hS1 : Below w.heap.size w w1 := S_below hb1 (by repeat (first | exact Below.refl _ _ | assumption | refine below_drewN ?_ _ | refine Below.drew ?_ | refine Below.alloc ?_ (by first | omega | (simp <;> omega)) _ | refine Below.setCell ?_ (by first | omega | (simp <;> omega)) _)) (by first | omega | (simp <;> omega))
        clear hb1
        go_wp2_with fail
        go_ret
        exact ⟨ret_bool HV.out.symm, hS1⟩
      · have HV := Lib.hid (all_step HE.out hl1 ho)
        unfold okH at ho
        generalize hs[k] = x at *
        obtain ⟨x0, x1, x2⟩ := x
        simp only at c0 c1 c2 ho
        have HO := Lib.hid ho; clear ho
        go_wp2_with fail
        go_at_call 63; (with_reducible refine (halfOk_lit' HO.out _).mono ?_); rintro e w1 ⟨rfl, hb1⟩
        have hS1 : Below w.heap.size w w1 := S_below hb1 (by repeat (first | exact Below.refl _ _ | assumption | refine below_drewN ?_ _ | refine Below.drew ?_ | refine Below.alloc ?_ (by first | omega | (simp <;> omega)) _ | refine Below.setCell ?_ (by first | omega | (simp <;> omega)) _)) (by first | omega | (simp <;> omega))
        clear hb1
        go_wp2_with fail
        go_roundw
        case rel => exact ⟨k + 1, by omega, by go_num, HV, hS1⟩
        case measure => simp [intOf]; omega
    · have HV := Lib.hid (all_end HE.out (by have := HN.out; omega))
      go_wp2_with fail
      go_ret
      exact ⟨ret_bool HV.out.symm, hb⟩

end Go.Proofs.Ythdaoadleeelnaa
