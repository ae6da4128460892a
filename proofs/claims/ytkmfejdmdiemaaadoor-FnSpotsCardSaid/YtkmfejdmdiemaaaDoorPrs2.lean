/- ParseInt of the reference. -/
import Derived.Test.YtkmfejdmdiemaaaDoorPrs
namespace Go.Proofs.YtkmfejdmdiemaaaDoor
open Go.ChangeShapes Go.WideShapes Go.ChangeAt Go.RowKit
attribute [local go_sem ↓] Go.wp_at_zero Go.wp_at_succ
set_option linter.unusedVariables false

theorem pI_nil : pI [] = none := rfl
set_option maxHeartbeats 1000000 in
set_option maxRecDepth 100000 in
theorem sParseInt_empty {s : ByteArray} (h0 : ¬ 0 < s.size) (w : World) :
    Calls Tryd.prog 42 #[.string s] w fun e w' => e = .returned (PRes (pI s.data.toList)) ∧ Below w.heap.size w w' := by
  have hs0 : s = ByteArray.empty := by
    have hl : s.data.toList.length = s.size := by simp
    rw [← bs_data s, List.eq_nil_of_length_eq_zero (show s.data.toList.length = 0 by omega)]; rfl
  subst hs0
  have HD := Lib.hid (show digitsV ByteArray.empty = false from rfl)
  clear h0
  go_enter Tryd.func42, Tryd.ntmps42
  go_wp2_with fail
  go_at_call 63; refine (sIsDigits_any _ _ (by unfold maxLen; simp)).mono ?_; rintro e w1 ⟨rfl, rfl⟩
  rw [HD.out]
  go_wp2_with fail
  exact bodyPost_ret (v := .tuple #[.int .i64 0, .bool false]) (by simp [results, Tryd.results42, go_sem]) rfl ⟨rfl, (by repeat (first | exact Below.refl _ _ | assumption | refine below_drewN ?_ _ | refine Below.drew ?_ | refine Below.alloc ?_ (by first | omega | (simp <;> omega)) _ | refine Below.setCell ?_ (by first | omega | (simp <;> omega)) _))⟩

set_option maxHeartbeats 2000000 in
set_option maxRecDepth 100000 in
theorem sParseInt_neg {s : ByteArray} (h0 : 0 < s.size) (hc : (s[0].toNat : Int) = 45) (w : World) (hs : s.size ≤ 1048576) :
    Calls Tryd.prog 42 #[.string s] w fun e w' => e = .returned (PRes (pI s.data.toList)) ∧ Below w.heap.size w w' := by
  have hG := sgTrue h0 hc
  have hts : (s.extract 1 s.size).size ≤ 1048576 := by rw [ByteArray.size_extract]; omega
  obtain ⟨t, ht⟩ : ∃ t, s.extract 1 s.size = t := ⟨_, rfl⟩
  rw [ht] at hG hts
  have HG := Lib.hid hG
  have HTE := Lib.hid ht
  clear ht hG
  have HTL := Lib.hid (show t.data.toList.length = t.size by simp)
  have hms : t.size ≤ maxLen := by unfold maxLen; omega
  have HMS := Lib.hid hms
  clear hms
  by_cases hbad : digitsV t = false ∨ 19 < t.size
  · have HV := Lib.hid (show pI s.data.toList = none by
      refine pI_not HG.out ?_
      rcases hbad with h | h
      · unfold digitsV at h
        rw [Bool.and_eq_false_iff] at h
        rcases h with h | h
        · exact .inl h
        · right; left
          simpa using h
      · right; right; left
        have := HTL.out; omega)
    by_cases hd : digitsV t = false
    · have HD := Lib.hid hd
      clear hbad hd
      go_enter Tryd.func42, Tryd.ntmps42
      go_wp2_with fail
      rw [HTE.out]
      go_at_call 63; refine (sIsDigits_any _ _ HMS.out).mono ?_; rintro e w1 ⟨rfl, rfl⟩
      rw [HD.out]
      go_wp2_with fail
      exact bodyPost_ret (v := .tuple #[.int .i64 0, .bool false]) (by simp [results, Tryd.results42, go_sem]) rfl ⟨by rw [HV.out]; rfl, (by repeat (first | exact Below.refl _ _ | assumption | refine below_drewN ?_ _ | refine Below.drew ?_ | refine Below.alloc ?_ (by first | omega | (simp <;> omega)) _ | refine Below.setCell ?_ (by first | omega | (simp <;> omega)) _))⟩
    · have HD := Lib.hid (show digitsV t = true by simpa using hd)
      have h19 : 19 < t.size := by
        rcases hbad with h | h
        · exact absurd h hd
        · exact h
      clear hbad hd
      go_enter Tryd.func42, Tryd.ntmps42
      go_wp2_with fail
      rw [HTE.out]
      go_at_call 63; refine (sIsDigits_any _ _ HMS.out).mono ?_; rintro e w1 ⟨rfl, rfl⟩
      rw [HD.out]
      go_wp2_with fail
      exact bodyPost_ret (v := .tuple #[.int .i64 0, .bool false]) (by simp [results, Tryd.results42, go_sem]) rfl ⟨by rw [HV.out]; rfl, (by repeat (first | exact Below.refl _ _ | assumption | refine below_drewN ?_ _ | refine Below.drew ?_ | refine Below.alloc ?_ (by first | omega | (simp <;> omega)) _ | refine Below.setCell ?_ (by first | omega | (simp <;> omega)) _))⟩
  · have hdt : digitsV t = true := by
      cases h : digitsV t with
      | true => rfl
      | false => exact absurd (.inl h) hbad
    have h19 : t.size ≤ 19 := by
      rcases Nat.lt_or_ge 19 t.size with h | h
      · exact absurd (.inr h) hbad
      · exact h
    have HD := Lib.hid hdt
    have HAll := Lib.hid (show ∀ k (hk : k < t.size), isDg t[k] by
      intro k hk
      unfold digitsV at hdt
      rw [Bool.and_eq_true] at hdt
      have := List.all_eq_true.1 hdt.1 t[k] (by show t.data[k]'hk ∈ t.data.toList; exact Array.getElem_mem_toList _)
      exact (dgB_iff _).1 this)
    have HAll2 := Lib.hid (show ∀ c ∈ t.data.toList, isDg c by
      intro c hc
      unfold digitsV at hdt
      rw [Bool.and_eq_true] at hdt
      exact (dgB_iff _).1 (List.all_eq_true.1 hdt.1 c hc))
    clear hbad hdt
    go_enter Tryd.func42, Tryd.ntmps42
    go_wp2_with fail
    rw [HTE.out]
    go_at_call 63; refine (sIsDigits_any _ _ HMS.out).mono ?_; rintro e w1 ⟨rfl, rfl⟩
    rw [HD.out]
    go_wp2_with fail
    go_loopw [6, 7] (fun q i wr => ∃ (k : Nat) (m : Int), i = .int .i64 k ∧ q = .int .i64 m ∧ k ≤ t.size ∧ RowKit.Hid (fallV 0 (t.data.toList.take k) = some m) ∧ wr = w) (fun _ i _ => t.size - (intOf i).toNat)
    case atStart => exact ⟨0, 0, rfl, rfl, Nat.zero_le _, rfl, rfl⟩
    case round =>
      obtain ⟨k, m, rfl, rfl, hk, HF, rfl⟩ := hrel
      have hmb := fall_bounds _ _ _ (fun c hc => HAll2.out c (List.mem_of_mem_take hc)) (by omega) (by omega) HF.out
      by_cases hlt : k < t.size
      · have hdg := HAll.out k hlt
        unfold isDg at hdg
        obtain ⟨f1, f2⟩ := fall_take hlt HF.out
        obtain ⟨d, hdd⟩ : ∃ d : Int, (t[k].toNat : Int) - 48 = d := ⟨_, rfl⟩
        obtain ⟨Q, hQ⟩ : ∃ Q : Int, (-9223372036854775808 + d).tdiv 10 = Q := ⟨_, rfl⟩
        rw [hdd, hQ] at f1
        rw [hdd, hQ] at f2
        have hQ2 : Q = -((9223372036854775808 - d) / 10) := by
          rw [← hQ, show -9223372036854775808 + d = -(9223372036854775808 - d) by omega, Int.neg_tdiv, Int.tdiv_eq_ediv_of_nonneg (by omega)]
        have hd0 : 0 ≤ d := by omega
        have hd9 : d ≤ 9 := by omega
        have hQb : -922337203685477581 ≤ Q ∧ Q ≤ 0 := by omega
        by_cases hch : m < Q
        · have HV := Lib.hid (pI_not HG.out (.inr (.inr (.inr (f1 hch)))))
          clear f1 f2 hQ2 hmb
          go_wp2_with fail
          exact bodyPost_ret (v := .tuple #[.int .i64 0, .bool false]) (by simp [results, Tryd.results42, go_sem]) rfl ⟨by rw [HV.out]; rfl, (by repeat (first | exact Below.refl _ _ | assumption | refine below_drewN ?_ _ | refine Below.drew ?_ | refine Below.alloc ?_ (by first | omega | (simp <;> omega)) _ | refine Below.setCell ?_ (by first | omega | (simp <;> omega)) _))⟩
        · have HS := Lib.hid (f2 hch)
          have hm10 : -9223372036854775808 ≤ m * 10 - d := by omega
          have hm11 : -9223372036854775808 ≤ m * 10 := by omega
          have hm12 : m * 10 ≤ 0 := by omega
          clear f1 f2 hQ2
          go_wp2_with fail
          go_roundw
          case rel => exact ⟨k + 1, m * 10 - d, by go_num, rfl, by omega, HS, by first | rfl | trivial⟩
          case measure => simp [intOf]; omega
      · have HE := Lib.hid (endV_is HG.out (show fallV 0 t.data.toList = some m by have := HF.out; rwa [List.take_of_length_le (by have := HTL.out; omega)] at this) hmb.1 hmb.2)
        by_cases he : fmtV m = s
        · have HV := Lib.hid (show pI s.data.toList = some m by rw [HE.out]; unfold endV; rw [if_neg (by simp), if_pos (by simpa [sgV] using fmtV_eq.1 he)]; rfl)
          have HF2 := Lib.hid he
          clear he
          go_wp2_with fail
          go_at_call 37; refine (sFormatInt_lit HF2.out _ (by omega) (by omega)).mono ?_; rintro e w2 ⟨rfl, hb2⟩
          go_wp2_with fail
          exact bodyPost_ret (v := .tuple #[.int .i64 m, .bool true]) (by simp [results, Tryd.results42, go_sem]) rfl ⟨by rw [HV.out]; rfl, hb2⟩
        · have HV := Lib.hid (show pI s.data.toList = none by rw [HE.out]; unfold endV; rw [if_neg (by simp), if_neg (by simpa [sgV] using fun e => he (fmtV_eq.2 e))])
          have hne := str_ne he
          obtain ⟨f, hf⟩ : ∃ f, fmtV m = f := ⟨_, rfl⟩
          rw [hf] at hne
          have HF2 := Lib.hid hf
          clear he hf
          go_wp2_with fail
          go_at_call 37; refine (sFormatInt_lit HF2.out _ (by omega) (by omega)).mono ?_; rintro e w2 ⟨rfl, hb2⟩
          go_wp2_with fail
          exact bodyPost_ret (v := .tuple #[.int .i64 0, .bool false]) (by simp [results, Tryd.results42, go_sem]) rfl ⟨by rw [HV.out]; rfl, hb2⟩

set_option maxHeartbeats 2000000 in
set_option maxRecDepth 100000 in
theorem sParseInt_pos {s : ByteArray} (h0 : 0 < s.size) (hc : ¬ (s[0].toNat : Int) = 45) (w : World) (hs : s.size ≤ 1048576) :
    Calls Tryd.prog 42 #[.string s] w fun e w' => e = .returned (PRes (pI s.data.toList)) ∧ Below w.heap.size w w' := by
  have HG := Lib.hid (sgFalse (fun _ => hc))
  have HTL := Lib.hid (show s.data.toList.length = s.size by simp)
  have hms : s.size ≤ maxLen := by unfold maxLen; omega
  have HMS := Lib.hid hms
  clear hms
  by_cases hbad : digitsV s = false ∨ 19 < s.size
  · have HV := Lib.hid (show pI s.data.toList = none by
      refine pI_not HG.out ?_
      rcases hbad with h | h
      · unfold digitsV at h
        rw [Bool.and_eq_false_iff] at h
        rcases h with h | h
        · exact .inl h
        · right; left
          simpa using h
      · right; right; left
        have := HTL.out; omega)
    by_cases hd : digitsV s = false
    · have HD := Lib.hid hd
      clear hbad hd
      go_enter Tryd.func42, Tryd.ntmps42
      go_wp2_with fail
      go_at_call 63; refine (sIsDigits_any _ _ HMS.out).mono ?_; rintro e w1 ⟨rfl, rfl⟩
      rw [HD.out]
      go_wp2_with fail
      exact bodyPost_ret (v := .tuple #[.int .i64 0, .bool false]) (by simp [results, Tryd.results42, go_sem]) rfl ⟨by rw [HV.out]; rfl, (by repeat (first | exact Below.refl _ _ | assumption | refine below_drewN ?_ _ | refine Below.drew ?_ | refine Below.alloc ?_ (by first | omega | (simp <;> omega)) _ | refine Below.setCell ?_ (by first | omega | (simp <;> omega)) _))⟩
    · have HD := Lib.hid (show digitsV s = true by simpa using hd)
      have h19 : 19 < s.size := by
        rcases hbad with h | h
        · exact absurd h hd
        · exact h
      clear hbad hd
      go_enter Tryd.func42, Tryd.ntmps42
      go_wp2_with fail
      go_at_call 63; refine (sIsDigits_any _ _ HMS.out).mono ?_; rintro e w1 ⟨rfl, rfl⟩
      rw [HD.out]
      go_wp2_with fail
      exact bodyPost_ret (v := .tuple #[.int .i64 0, .bool false]) (by simp [results, Tryd.results42, go_sem]) rfl ⟨by rw [HV.out]; rfl, (by repeat (first | exact Below.refl _ _ | assumption | refine below_drewN ?_ _ | refine Below.drew ?_ | refine Below.alloc ?_ (by first | omega | (simp <;> omega)) _ | refine Below.setCell ?_ (by first | omega | (simp <;> omega)) _))⟩
  · have hdt : digitsV s = true := by
      cases h : digitsV s with
      | true => rfl
      | false => exact absurd (.inl h) hbad
    have h19 : s.size ≤ 19 := by
      rcases Nat.lt_or_ge 19 s.size with h | h
      · exact absurd (.inr h) hbad
      · exact h
    have HD := Lib.hid hdt
    have HAll := Lib.hid (show ∀ k (hk : k < s.size), isDg s[k] by
      intro k hk
      unfold digitsV at hdt
      rw [Bool.and_eq_true] at hdt
      have := List.all_eq_true.1 hdt.1 s[k] (by show s.data[k]'hk ∈ s.data.toList; exact Array.getElem_mem_toList _)
      exact (dgB_iff _).1 this)
    have HAll2 := Lib.hid (show ∀ c ∈ s.data.toList, isDg c by
      intro c hc
      unfold digitsV at hdt
      rw [Bool.and_eq_true] at hdt
      exact (dgB_iff _).1 (List.all_eq_true.1 hdt.1 c hc))
    clear hbad hdt
    go_enter Tryd.func42, Tryd.ntmps42
    go_wp2_with fail
    go_at_call 63; refine (sIsDigits_any _ _ HMS.out).mono ?_; rintro e w1 ⟨rfl, rfl⟩
    rw [HD.out]
    go_wp2_with fail
    go_loopw [6, 7] (fun q i wr => ∃ (k : Nat) (m : Int), i = .int .i64 k ∧ q = .int .i64 m ∧ k ≤ s.size ∧ RowKit.Hid (fallV 0 (s.data.toList.take k) = some m) ∧ wr = w) (fun _ i _ => s.size - (intOf i).toNat)
    case atStart => exact ⟨0, 0, rfl, rfl, Nat.zero_le _, rfl, rfl⟩
    case round =>
      obtain ⟨k, m, rfl, rfl, hk, HF, rfl⟩ := hrel
      have hmb := fall_bounds _ _ _ (fun c hc => HAll2.out c (List.mem_of_mem_take hc)) (by omega) (by omega) HF.out
      by_cases hlt : k < s.size
      · have hdg := HAll.out k hlt
        unfold isDg at hdg
        obtain ⟨f1, f2⟩ := fall_take hlt HF.out
        obtain ⟨d, hdd⟩ : ∃ d : Int, (s[k].toNat : Int) - 48 = d := ⟨_, rfl⟩
        obtain ⟨Q, hQ⟩ : ∃ Q : Int, (-9223372036854775808 + d).tdiv 10 = Q := ⟨_, rfl⟩
        rw [hdd, hQ] at f1
        rw [hdd, hQ] at f2
        have hQ2 : Q = -((9223372036854775808 - d) / 10) := by
          rw [← hQ, show -9223372036854775808 + d = -(9223372036854775808 - d) by omega, Int.neg_tdiv, Int.tdiv_eq_ediv_of_nonneg (by omega)]
        have hd0 : 0 ≤ d := by omega
        have hd9 : d ≤ 9 := by omega
        have hQb : -922337203685477581 ≤ Q ∧ Q ≤ 0 := by omega
        by_cases hch : m < Q
        · have HV := Lib.hid (pI_not HG.out (.inr (.inr (.inr (f1 hch)))))
          clear f1 f2 hQ2 hmb
          go_wp2_with fail
          exact bodyPost_ret (v := .tuple #[.int .i64 0, .bool false]) (by simp [results, Tryd.results42, go_sem]) rfl ⟨by rw [HV.out]; rfl, (by repeat (first | exact Below.refl _ _ | assumption | refine below_drewN ?_ _ | refine Below.drew ?_ | refine Below.alloc ?_ (by first | omega | (simp <;> omega)) _ | refine Below.setCell ?_ (by first | omega | (simp <;> omega)) _))⟩
        · have HS := Lib.hid (f2 hch)
          have hm10 : -9223372036854775808 ≤ m * 10 - d := by omega
          have hm11 : -9223372036854775808 ≤ m * 10 := by omega
          have hm12 : m * 10 ≤ 0 := by omega
          clear f1 f2 hQ2
          go_wp2_with fail
          go_roundw
          case rel => exact ⟨k + 1, m * 10 - d, by go_num, rfl, by omega, HS, by first | rfl | trivial⟩
          case measure => simp [intOf]; omega
      · have HE := Lib.hid (endV_is HG.out (show fallV 0 s.data.toList = some m by have := HF.out; rwa [List.take_of_length_le (by have := HTL.out; omega)] at this) hmb.1 hmb.2)
        by_cases hmin : m = -9223372036854775808
        · have HV := Lib.hid (show pI s.data.toList = none by rw [HE.out]; unfold endV; rw [if_pos ⟨rfl, hmin⟩])
          subst hmin
          clear hmb
          go_wp2_with fail
          exact bodyPost_ret (v := .tuple #[.int .i64 0, .bool false]) (by simp [results, Tryd.results42, go_sem]) rfl ⟨by rw [HV.out]; rfl, (by repeat (first | exact Below.refl _ _ | assumption | refine below_drewN ?_ _ | refine Below.drew ?_ | refine Below.alloc ?_ (by first | omega | (simp <;> omega)) _ | refine Below.setCell ?_ (by first | omega | (simp <;> omega)) _))⟩
        · by_cases he : fmtV (-m) = s
          · have HV := Lib.hid (show pI s.data.toList = some (-m) by rw [HE.out]; unfold endV; rw [if_neg (by simp [hmin]), if_pos (by simpa [sgV] using fmtV_eq.1 he)]; rfl)
            have HF2 := Lib.hid he
            clear he
            go_wp2_with fail
            go_at_call 37; refine (sFormatInt_lit HF2.out _ (by omega) (by omega)).mono ?_; rintro e w2 ⟨rfl, hb2⟩
            go_wp2_with fail
            exact bodyPost_ret (v := .tuple #[.int .i64 (-m), .bool true]) (by simp [results, Tryd.results42, go_sem]) rfl ⟨by rw [HV.out]; rfl, hb2⟩
          · have HV := Lib.hid (show pI s.data.toList = none by rw [HE.out]; unfold endV; rw [if_neg (by simp [hmin]), if_neg (by simpa [sgV] using fun e => he (fmtV_eq.2 e))])
            have hne := str_ne he
            obtain ⟨f, hf⟩ : ∃ f, fmtV (-m) = f := ⟨_, rfl⟩
            rw [hf] at hne
            have HF2 := Lib.hid hf
            clear he hf
            go_wp2_with fail
            go_at_call 37; refine (sFormatInt_lit HF2.out _ (by omega) (by omega)).mono ?_; rintro e w2 ⟨rfl, hb2⟩
            go_wp2_with fail
            exact bodyPost_ret (v := .tuple #[.int .i64 0, .bool false]) (by simp [results, Tryd.results42, go_sem]) rfl ⟨by rw [HV.out]; rfl, hb2⟩

theorem sParseInt_any (s : ByteArray) (w : World) (hs : s.size ≤ 1048576) :
    Calls Tryd.prog 42 #[.string s] w fun e w' => e = .returned (PRes (pI s.data.toList)) ∧ Below w.heap.size w w' := by
  by_cases h0 : 0 < s.size
  · by_cases hc : (s[0].toNat : Int) = 45
    · exact sParseInt_neg h0 hc w hs
    · exact sParseInt_pos h0 hc w hs
  · exact sParseInt_empty h0 w

theorem iParseInt_any (s : ByteArray) (w : World) (ht : Tab10 w) (he : Errs w) (hs : s.size ≤ 281474976710656) :
    Calls Tryd.prog 44 #[.string s] w fun e w' => e = .returned (PRes (pI s.data.toList)) ∧ Below w.heap.size w w' := by
  cases hp : pI s.data.toList with
  | none => exact iParseInt_none hp w ht he hs
  | some n => exact iParseInt_some hp w ht hs

end Go.Proofs.YtkmfejdmdiemaaaDoor
