/- Contracts of IsDigits and IsName, of the program and of the reference: both return the same plain function of the string's bytes. -/
import Derived.Test.YtkmfejdmdiemaaaDoorGcd
namespace Go.Proofs.YtkmfejdmdiemaaaDoor
open Go.ChangeShapes Go.WideShapes Go.ChangeAt Go.RowKit
attribute [local go_sem ↓] Go.wp_at_zero Go.wp_at_succ
set_option linter.unusedVariables false

/-- Is the byte a digit, a small letter? -/
def dgI (c : Int) : Bool := decide (48 ≤ c) && decide (c ≤ 57)

def ltI (c : Int) : Bool := decide (97 ≤ c) && decide (c ≤ 122)

def dgB (c : UInt8) : Bool := dgI c.toNat

def ltB (c : UInt8) : Bool := ltI c.toNat

theorem take_snoc (s : ByteArray) (k : Nat) (h : k < s.size) : s.data.toList.take (k + 1) = s.data.toList.take k ++ [s[k]] := by
  rw [List.take_succ_eq_append_getElem (by simpa using h)]; rfl

theorem toList_eq (s : ByteArray) : s.toList = s.data.toList := by
  exact ByteArray.toList_eq s

/-- IsDigits's result. -/
def digitsV (s : ByteArray) : Bool := s.data.toList.all dgB && !s.data.toList.isEmpty

theorem all_step (f : UInt8 → Bool) (s : ByteArray) (k : Nat) (h : k < s.size) (a : (s.data.toList.take k).all f = true) (b : f s[k] = true) : (s.data.toList.take (k + 1)).all f = true := by
  rw [take_snoc s k h, List.all_append, a]; simp [b]

theorem all_fails (f : UInt8 → Bool) (s : ByteArray) (k : Nat) (h : k < s.size) (b : f s[k] = false) : s.data.toList.all f = false := by
  rw [List.all_eq_false]
  exact ⟨s[k], by rw [show s[k] = s.data.toList[k]'(by simpa using h) from rfl]; exact List.getElem_mem _, by simp [b]⟩

theorem all_ends (f : UInt8 → Bool) (s : ByteArray) (k : Nat) (h : k = s.size) (a : (s.data.toList.take k).all f = true) : s.data.toList.all f = true := by
  rw [h, List.take_of_length_le (by simp)] at a; exact a


set_option maxHeartbeats 1000000 in
set_option maxRecDepth 100000 in
theorem sIsDigits_any (s : ByteArray) (w : World) (hs : s.size ≤ maxLen) :
    Calls Tryd.prog 63 #[.string s] w fun e w' => e = .returned (.bool (digitsV s)) ∧ w = w' := by
  unfold maxLen at hs
  go_enter Tryd.func63, Tryd.ntmps63
  go_wp2
  go_loop [3] (fun i => ∃ k : Nat, k ≤ s.size ∧ i = .int .i64 k ∧ RowKit.Hid ((s.data.toList.take k).all dgB = true)) (fun i => s.size - (intOf i).toNat)
  case atStart => exact ⟨0, Nat.zero_le _, rfl, rfl⟩
  case round =>
    obtain ⟨k, hk, rfl, HA⟩ := hrel
    by_cases hlt : k < s.size
    · have hb := s[k].toNat_lt
      by_cases h1 : (s[k].toNat : Int) < 48
      · have HV := Lib.hid (show digitsV s = false by unfold digitsV; rw [all_fails dgB s k hlt (by unfold dgB dgI; simp; omega)]; rfl)
        go_wp2
        go_ret
        exact ⟨ret_bool HV.out.symm, rfl⟩
      · by_cases h2 : 57 < (s[k].toNat : Int)
        · have HV := Lib.hid (show digitsV s = false by unfold digitsV; rw [all_fails dgB s k hlt (by unfold dgB dgI; simp; omega)]; rfl)
          go_wp2
          go_ret
          exact ⟨ret_bool HV.out.symm, rfl⟩
        · have HS := Lib.hid (all_step dgB s k hlt HA.out (by unfold dgB dgI; simp; omega))
          go_wp2
          go_round
          case rel => exact ⟨k + 1, by omega, by go_num, HS.out⟩
          case measure => simp [intOf]; omega
    · have hk' : k = s.size := by omega
      have HV := Lib.hid (show digitsV s = !s.data.toList.isEmpty by unfold digitsV; rw [all_ends dgB s k hk' HA.out]; rfl)
      clear hk'
      go_wp2
      go_ret
      refine ⟨ret_bool ?_, rfl⟩
      rw [HV.out]
      cases h : s.data.toList with
      | nil => simp_all [← ByteArray.size_data, ← Array.length_toList]
      | cons c r => simp_all [← ByteArray.size_data, ← Array.length_toList]

/-- IsName's result: nameL tells the bytes, apart from their number. -/
def nmB (c : UInt8) : Bool := ltB c || dgB c

def nameL : List UInt8 → Bool
  | [] => true
  | c :: r => ltB c && r.all nmB

def nameV (s : ByteArray) : Bool := inB s.size 1 8 && nameL s.data.toList

theorem nameL_snoc (l : List UInt8) (c : UInt8) : nameL (l ++ [c]) = (nameL l && (ltB c || (!l.isEmpty && dgB c))) := by
  cases l with
  | nil => simp [nameL]
  | cons a r => simp [nameL, nmB, Bool.and_assoc]

theorem nameL_prefix (l : List UInt8) (k : Nat) (h : nameL (l.take k) = false) : nameL l = false := by
  cases l with
  | nil => simp [nameL] at h
  | cons c r =>
    cases k with
    | zero => simp [nameL] at h
    | succ k =>
      simp only [List.take_succ_cons, nameL] at h ⊢
      cases hc : ltB c
      · rfl
      · rw [hc] at h
        simp only [Bool.true_and, List.all_eq_false] at h ⊢
        obtain ⟨x, hx, hn⟩ := h
        exact ⟨x, List.mem_of_mem_take hx, hn⟩

theorem nameL_step (s : ByteArray) (k : Nat) (h : k < s.size) (a : nameL (s.data.toList.take k) = true) (b : ltB s[k] = true ∨ (k ≠ 0 ∧ dgB s[k] = true)) : nameL (s.data.toList.take (k + 1)) = true := by
  rw [take_snoc s k h, nameL_snoc, a]
  rcases b with b | ⟨b0, b⟩
  · simp [b]
  · have hlen : (s.data.toList.take k).length = k := List.length_take_of_le (Nat.le_of_lt (by simpa using h))
    have hl : (s.data.toList.take k).isEmpty = false := by
      cases hh : s.data.toList.take k with
      | nil => rw [hh] at hlen; exact absurd hlen.symm b0
      | cons => rfl
    simp [b, hl]

theorem nameL_stop (s : ByteArray) (k : Nat) (h : k < s.size) (b1 : ltB s[k] = false) (b2 : k = 0 ∨ dgB s[k] = false) : nameL s.data.toList = false := by
  refine nameL_prefix _ (k + 1) ?_
  rw [take_snoc s k h, nameL_snoc, b1]
  rcases b2 with b0 | b2
  · subst b0; simp
  · simp [b2]

theorem nameL_ends (s : ByteArray) (k : Nat) (h : k = s.size) (a : nameL (s.data.toList.take k) = true) : nameL s.data.toList = true := by
  rw [h, List.take_of_length_le (by simp)] at a; exact a

theorem nameL_of (s : ByteArray) (h : 0 < s.size) (a : ltB s[0] = true) : nameL s.data.toList = s.data.toList.all nmB := by
  have h' : 0 < s.data.toList.length := by simpa using h
  cases hl : s.data.toList with
  | nil => rw [hl] at h'; cases h'
  | cons c r =>
    have hc : s[0] = c := by
      have : s.data.toList[0]'h' = c := by simp [hl]
      rw [← this]; rfl
    rw [hc] at a
    simp [nameL, nmB, a]

end Go.Proofs.YtkmfejdmdiemaaaDoor
