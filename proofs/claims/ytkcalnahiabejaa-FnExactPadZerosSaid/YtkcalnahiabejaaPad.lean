/- PadZeros, of the program and of the reference, and the law's walk. -/
import Derived.Test.YtkcalnahiabejaaSplP
import Derived.Test.YtkcalnahiabejaaNum
import Derived.Test.YtkcalnahiabejaaShelf
import Derived.Lib.Repeat
namespace Go.Proofs.Ytkcalnahiabejaa
open Go.ChangeShapes Go.WideShapes Go.ChangeAt Go.RowKit
attribute [local go_sem ↓] Go.wp_at_zero Go.wp_at_succ
set_option linter.unusedVariables false

def strLen : Value → Nat
  | .string b => b.size
  | _ => 0

def padL (l : List UInt8) (n : Int) : List UInt8 := if 2000 < n then l else List.replicate (n - l.length).toNat 48 ++ l

def padV (s : ByteArray) (n : Int) : ByteArray := bs (padL s.data.toList n)

theorem padV_same {s : ByteArray} {n : Int} (h : 2000 < n ∨ n ≤ s.size) : padV s n = s := by
  unfold padV padL
  split
  · exact bs_data s
  · have : (n - s.data.toList.length).toNat = 0 := by
      have : s.data.toList.length = s.size := by simp
      omega
    rw [this]
    simpa using bs_data s

theorem padV_some {s : ByteArray} {n : Int} {m : Nat} (h : ¬ 2000 < n) (hm : n = s.size + m) : padV s n = bs (List.replicate m 48) ++ s := by
  unfold padV padL
  rw [if_neg h]
  have e : (n - s.data.toList.length).toNat = m := by
    have : s.data.toList.length = s.size := by simp
    omega
  rw [e, ← bs_append, bs_data]

theorem repeat_48 (m : Nat) : (⟨(Lib.repeatL [48] m).toArray⟩ : ByteArray) = bs (List.replicate m 48) := by
  have : Lib.repeatL [48] m = List.replicate m 48 := by
    induction m with
    | zero => rfl
    | succ m ih => simp_all [Lib.repeatL, List.replicate_succ]
  rw [this]; rfl

theorem pad_cons (j : Nat) (l : List UInt8) : (ByteArray.mk #[48]) ++ bs (List.replicate j 48 ++ l) = bs (List.replicate (j + 1) 48 ++ l) := by
  rw [show (ByteArray.mk #[48]) = bs [48] from rfl, bs_append, List.replicate_succ]; rfl

theorem size_48 : (ByteArray.mk #[48]).size = 1 := rfl

theorem ret_str {a b : ByteArray} (h : a = b) : Ending.returned (.string a) = .returned (.string b) := by rw [h]

set_option maxHeartbeats 1000000 in
theorem iPadZeros_any (s : ByteArray) (n : Int) (w : World) (hs : s.size ≤ 1048576) (h1 : -9223372036854775808 ≤ n) (h2 : n ≤ 9223372036854775807) :
    Calls Try.prog 16 #[.string s, .int .i64 n] w fun e w' => e = .returned (.string (padV s n)) ∧ Below w.heap.size w w' := by
  by_cases hn : 2000 < n
  · have HP := Lib.hid (padV_same (s := s) (.inl hn))
    go_enter Try.func16, Try.ntmps16
    go_wp2_with fail
    go_ret
    exact ⟨ret_str HP.out.symm, (by repeat (first | exact Below.refl _ _ | assumption | refine below_drewN ?_ _ | refine Below.drew ?_ | refine Below.alloc ?_ (by first | omega | (simp <;> omega)) _ | refine Below.setCell ?_ (by first | omega | (simp <;> omega)) _))⟩
  · by_cases hl : n ≤ s.size
    · have HP := Lib.hid (padV_same (s := s) (.inr hl))
      go_enter Try.func16, Try.ntmps16
      go_wp2_with fail
      go_ret
      exact ⟨ret_str HP.out.symm, (by repeat (first | exact Below.refl _ _ | assumption | refine below_drewN ?_ _ | refine Below.drew ?_ | refine Below.alloc ?_ (by first | omega | (simp <;> omega)) _ | refine Below.setCell ?_ (by first | omega | (simp <;> omega)) _))⟩
    · obtain ⟨m, hm⟩ : ∃ m : Nat, n = s.size + m := ⟨(n - s.size).toNat, by omega⟩
      have HP := Lib.hid (padV_some hn hm)
      have hsub : n - (s.size : Int) = (m : Int) := by omega
      have hz : ¬ 9223372036854775807 < (bs (List.replicate m 48)).size + s.size := by rw [bs_size]; simp; omega
      have hr := repeat_48 m
      have hmm : m ≤ 2000 := by omega
      clear hm
      go_enter Try.func16, Try.ntmps16
      go_wp2_with fail
      go_at_call 20; refine (Try.strings_Repeat ⟨#[48]⟩ m _ (by omega) (by rw [size_48]; omega)).mono ?_; rintro e w1 ⟨rfl, hb⟩
      rw [show (ByteArray.mk #[48]).data.toList = [48] from rfl, hr]
      clear hr
      go_wp2_with fail
      go_ret
      exact ⟨ret_str HP.out.symm, hb⟩

set_option maxHeartbeats 1000000 in
theorem sPadZeros_any (s : ByteArray) (n : Int) (w : World) (hs : s.size ≤ 1048576) (h1 : -9223372036854775808 ≤ n) (h2 : n ≤ 9223372036854775807) :
    Calls Try.prog 15 #[.string s, .int .i64 n] w fun e w' => e = .returned (.string (padV s n)) ∧ Below w.heap.size w w' := by
  by_cases hn : 2000 < n
  · have HP := Lib.hid (padV_same (s := s) (.inl hn))
    go_enter Try.func15, Try.ntmps15
    go_wp2_with fail
    go_ret
    exact ⟨ret_str HP.out.symm, (by repeat (first | exact Below.refl _ _ | assumption | refine below_drewN ?_ _ | refine Below.drew ?_ | refine Below.alloc ?_ (by first | omega | (simp <;> omega)) _ | refine Below.setCell ?_ (by first | omega | (simp <;> omega)) _))⟩
  · go_enter Try.func15, Try.ntmps15
    go_wp2_with fail
    go_loopw [0] (fun q wr => ∃ j : Nat, q = .string (bs (List.replicate j 48 ++ s.data.toList)) ∧ ((j : Int) + s.size ≤ n ∨ j = 0) ∧ Below w.heap.size w wr) (fun q _ => (n - strLen q).toNat)
    case atStart => exact ⟨0, by simp [bs_data], .inr rfl, Below.refl _ _⟩
    case round =>
      obtain ⟨j, rfl, hj, hb⟩ := hrel
      have hsz : (bs (List.replicate j 48 ++ s.data.toList)).size = j + s.size := by rw [bs_size]; simp
      by_cases hl : (j : Int) + s.size < n
      · have hz : ¬ 9223372036854775807 < (ByteArray.mk #[48]).size + (bs (List.replicate j 48 ++ s.data.toList)).size := by rw [hsz, size_48]; omega
        have hlt : ((bs (List.replicate j 48 ++ s.data.toList)).size : Int) < n := by rw [hsz]; omega
        have HC := Lib.hid (pad_cons j s.data.toList)
        have HS := Lib.hid hsz
        clear hsz
        generalize bs (List.replicate j 48 ++ s.data.toList) = q at *
        go_wp2_with fail
        go_roundw
        case rel => exact ⟨j + 1, by rw [← HC.out], .inl (by omega), hb⟩
        case measure =>
          have := HS.out
          simp only [strLen, ByteArray.size_append]
          rw [this, size_48]
          rw [this] at hlt
          omega
      · have hge : ¬ ((bs (List.replicate j 48 ++ s.data.toList)).size : Int) < n := by rw [hsz]; omega
        have HP := Lib.hid (show padV s n = bs (List.replicate j 48 ++ s.data.toList) by
          rcases hj with hj | hj
          · rw [padV_some (by omega) (show n = s.size + j by omega), ← bs_append, bs_data]
          · subst hj
            rw [padV_same (.inr (by omega))]
            simp [bs_data])
        clear hsz
        generalize bs (List.replicate j 48 ++ s.data.toList) = q at *
        go_wp2_with fail
        go_ret
        exact ⟨ret_str HP.out.symm, hb⟩

theorem iPadZeros_lit {s p : ByteArray} {n : Int} (h : padV s n = p) (w : World) (hs : s.size ≤ 1048576) (h1 : -9223372036854775808 ≤ n) (h2 : n ≤ 9223372036854775807) :
    Calls Try.prog 16 #[.string s, .int .i64 n] w fun e w' => e = .returned (.string p) ∧ Below w.heap.size w w' := by
  subst h; exact iPadZeros_any s n w hs h1 h2

theorem sPadZeros_lit {s p : ByteArray} {n : Int} (h : padV s n = p) (w : World) (hs : s.size ≤ 1048576) (h1 : -9223372036854775808 ≤ n) (h2 : n ≤ 9223372036854775807) :
    Calls Try.prog 15 #[.string s, .int .i64 n] w fun e w' => e = .returned (.string p) ∧ Below w.heap.size w w' := by
  subst h; exact sPadZeros_any s n w hs h1 h2

set_option maxHeartbeats 1000000 in
theorem exPadZeros_walk (s : ByteArray) (hs : s.size ≤ maxLen) (n : Int) (h1 : -9223372036854775808 ≤ n ∧ n ≤ 9223372036854775807) (w : World) :
    Calls Try.prog 5 #[.string s, .int .i64 n] w fun e w' => e = .returned (.bool true) ∧ Below w.heap.size w w' := by
  unfold maxLen at hs
  by_cases hz : 1048576 < s.size
  · go_enter Try.func5, Try.ntmps5
    go_wp2
    go_ret
    exact ⟨rfl, (by repeat (first | exact Below.refl _ _ | assumption | refine below_drewN ?_ _ | refine Below.drew ?_ | refine Below.alloc ?_ (by first | omega | (simp <;> omega)) _ | refine Below.setCell ?_ (by first | omega | (simp <;> omega)) _))⟩
  · obtain ⟨p, hp⟩ : ∃ p, padV s n = p := ⟨_, rfl⟩
    have HP := Lib.hid hp
    clear hp
    go_enter Try.func5, Try.ntmps5
    go_wp2_with fail
    go_at_call 15; with_reducible refine (sPadZeros_lit HP.out _ (by omega) (by omega) (by omega)).mono ?_
    rintro e w1 ⟨rfl, hb1⟩
    have hS1_w1 : Below w.heap.size w w1 := S_below hb1 (by repeat (first | exact Below.refl _ _ | assumption | refine below_drewN ?_ _ | refine Below.drew ?_ | refine Below.alloc ?_ (by first | omega | (simp <;> omega)) _ | refine Below.setCell ?_ (by first | omega | (simp <;> omega)) _)) (by first | omega | (simp <;> omega))
    have hz1_w1 : w.heap.size ≤ w1.heap.size := S_size hb1 (by first | omega | (simp <;> omega))
    clear hb1
    go_wp2_with fail
    go_at_call 16; with_reducible refine (iPadZeros_lit HP.out _ (by omega) (by omega) (by omega)).mono ?_
    rintro e w2 ⟨rfl, hb1⟩
    have hS1_w2 : Below w.heap.size w w2 := S_below hb1 (by repeat (first | exact Below.refl _ _ | assumption | refine below_drewN ?_ _ | refine Below.drew ?_ | refine Below.alloc ?_ (by first | omega | (simp <;> omega)) _ | refine Below.setCell ?_ (by first | omega | (simp <;> omega)) _)) (by first | omega | (simp <;> omega))
    have hz1_w2 : w.heap.size ≤ w2.heap.size := S_size hb1 (by first | omega | (simp <;> omega))
    clear hb1
    go_wp2_with fail
    go_ret
    exact ⟨rfl, (by repeat (first | exact Below.refl _ _ | assumption | refine below_drewN ?_ _ | refine Below.drew ?_ | refine Below.alloc ?_ (by first | omega | (simp <;> omega)) _ | refine Below.setCell ?_ (by first | omega | (simp <;> omega)) _))⟩

end Go.Proofs.Ytkcalnahiabejaa
