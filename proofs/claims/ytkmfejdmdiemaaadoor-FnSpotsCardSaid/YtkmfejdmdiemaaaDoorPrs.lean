/- ParseInt, of the program and of the reference. -/
import Derived.Test.YtkmfejdmdiemaaaDoorFmt
import Derived.Test.YtkmfejdmdiemaaaDoorText
namespace Go.Proofs.YtkmfejdmdiemaaaDoor
open Go.ChangeShapes Go.WideShapes Go.ChangeAt Go.RowKit
attribute [local go_sem ↓] Go.wp_at_zero Go.wp_at_succ
set_option linter.unusedVariables false

theorem dgB_iff (c : UInt8) : dgB c = true ↔ isDg c := by unfold dgB dgI isDg; simp; omega

/-- The text behind the sign. -/
def Sg (neg : Bool) (l t : List UInt8) : Prop := (neg = true → l = 45 :: t) ∧ (neg = false → l = t ∧ ∀ r, l ≠ 45 :: r)

def sgV (neg : Bool) (m : Int) : Int := if neg then m else -m

theorem pI_parts {neg : Bool} {l t : List UInt8} (hs : Sg neg l t) {n : Int} (h : pI l = some n) : t.all dgB = true ∧ t ≠ [] ∧ t.length ≤ 19 ∧ fallV 0 t = some (sgV neg n) ∧ (neg = false → 0 ≤ n) := by
  obtain ⟨e, b1, b2⟩ := pI_some h
  have key : ∀ u : Nat, u ≤ 9223372036854775808 → (Lib.decDigits u).all dgB = true ∧ Lib.decDigits u ≠ [] ∧ (Lib.decDigits u).length ≤ 19 ∧ fallV 0 (Lib.decDigits u) = some (-(u : Int)) := by
    intro u hu
    refine ⟨List.all_eq_true.2 (fun c hc => (dgB_iff c).2 (dec_digits u c hc)), dec_ne u, by rw [Lib.decDigits_length]; exact nDigits_19 hu, fall_dec u hu⟩
  cases neg with
  | true =>
    have hl := hs.1 rfl
    by_cases hn : n < 0
    · obtain ⟨u, rfl⟩ : ∃ u : Nat, n = -(u : Int) := ⟨n.natAbs, by omega⟩
      rw [Lib.itoa_neg u (by omega), hl] at e
      injection e with _ e
      subst e
      obtain ⟨k1, k2, k3, k4⟩ := key u (by omega)
      exact ⟨k1, k2, k3, k4, fun h => by cases h⟩
    · obtain ⟨u, rfl⟩ : ∃ u : Nat, n = (u : Int) := ⟨n.toNat, by omega⟩
      rw [Lib.itoa_nonneg, hl] at e
      have := dec_digits u 45 (by rw [e]; exact List.mem_cons_self)
      unfold isDg at this
      simp at this
  | false =>
    obtain ⟨rfl, hl⟩ := hs.2 rfl
    by_cases hn : n < 0
    · obtain ⟨u, rfl⟩ : ∃ u : Nat, n = -(u : Int) := ⟨n.natAbs, by omega⟩
      rw [Lib.itoa_neg u (by omega)] at e
      exact absurd e.symm (hl _)
    · obtain ⟨u, rfl⟩ : ∃ u : Nat, n = (u : Int) := ⟨n.toNat, by omega⟩
      rw [Lib.itoa_nonneg] at e
      subst e
      obtain ⟨k1, k2, k3, k4⟩ := key u (by omega)
      exact ⟨k1, k2, k3, k4, fun _ => by omega⟩

theorem pI_not {neg : Bool} {l t : List UInt8} (hs : Sg neg l t) (h : t.all dgB = false ∨ t = [] ∨ 19 < t.length ∨ fallV 0 t = none) : pI l = none := by
  cases hp : pI l with
  | none => rfl
  | some n =>
    obtain ⟨a, b, c, d, _⟩ := pI_parts hs hp
    rcases h with h | h | h | h
    · rw [a] at h; cases h
    · exact absurd h b
    · omega
    · rw [d] at h; cases h
/-- What the reference finds at the end. -/
theorem pI_end {neg : Bool} {l t : List UInt8} (hs : Sg neg l t) {m : Int} (hf : fallV 0 t = some m) (h1 : -9223372036854775808 ≤ m) (h2 : m ≤ 0) :
    (neg = false ∧ m = -9223372036854775808 → pI l = none) ∧ ((neg = true ∨ m ≠ -9223372036854775808) → (Lib.itoa (sgV neg m) = l → pI l = some (sgV neg m)) ∧ (Lib.itoa (sgV neg m) ≠ l → pI l = none)) := by
  constructor
  · rintro ⟨rfl, rfl⟩
    cases hp : pI l with
    | none => rfl
    | some n =>
      obtain ⟨_, _, _, d, _⟩ := pI_parts hs hp
      obtain ⟨_, b1, b2⟩ := pI_some hp
      rw [hf] at d
      injection d with d
      simp [sgV] at d
      omega
  · intro hn
    have hb : -9223372036854775808 ≤ sgV neg m ∧ sgV neg m ≤ 9223372036854775807 := by
      cases neg with
      | true => simp [sgV]; omega
      | false =>
        rcases hn with hn | hn
        · cases hn
        · simp [sgV]; omega
    constructor
    · intro e
      rw [← e]; exact pI_itoa hb.1 hb.2
    · intro e
      cases hp : pI l with
      | none => rfl
      | some n =>
        obtain ⟨_, _, _, d, _⟩ := pI_parts hs hp
        rw [hf] at d
        injection d with d
        have : sgV neg m = n := by subst d; cases neg <;> simp [sgV]
        exact absurd (this ▸ (pI_some hp).1) e

def Errs (w : World) : Prop := (∃ ev, w.cell? ⟨1, 0, none⟩ = some ev ∧ (ev = .nilIface ∨ ∃ te pe, ev = .iface te pe)) ∧ (∃ ev, w.cell? ⟨2, 0, none⟩ = some ev ∧ (ev = .nilIface ∨ ∃ te pe, ev = .iface te pe))

theorem cell_lt {w : World} {b o : Nat} {v : Value} (h : w.cell? ⟨b, o, none⟩ = some v) : b < w.heap.size := by
  rcases Nat.lt_or_ge b w.heap.size with h' | h'
  · exact h'
  · simp [World.cell?, Array.getElem?_eq_none h'] at h

theorem Errs.step {w w' : World} (h : Errs w) (hb : Below w.heap.size w w') : Errs w' := by
  obtain ⟨⟨e1, c1, d1⟩, ⟨e2, c2, d2⟩⟩ := h
  exact ⟨⟨e1, cell_keep hb c1 (cell_lt c1), d1⟩, ⟨e2, cell_keep hb c2 (cell_lt c2), d2⟩⟩

theorem fmtV_eq {n : Int} {s : ByteArray} : fmtV n = s ↔ Lib.itoa n = s.data.toList := by
  unfold fmtV
  constructor
  · intro h; rw [← h, bs_toList]
  · intro h; rw [h, bs_data]

set_option maxHeartbeats 1000000 in
set_option maxRecDepth 100000 in
theorem iParseInt_some {s : ByteArray} {n : Int} (h : pI s.data.toList = some n) (w : World) (ht : Tab10 w) (hs : s.size ≤ 281474976710656) :
    Calls Tryd.prog 44 #[.string s] w fun e w' => e = .returned (.tuple #[.int .i64 n, .bool true]) ∧ Below w.heap.size w w' := by
  have HT := Lib.hid ht; clear ht
  obtain ⟨e, b1, b2⟩ := pI_some h
  have HA := Lib.hid (show Lib.atoiAll s.data.toList = .ok n by rw [← e]; exact atoi_itoa b1 b2)
  have HF := Lib.hid (fmtV_eq.2 e)
  clear e h
  go_enter Tryd.func44, Tryd.ntmps44
  go_wp2_with fail
  go_at_call 65; refine (Tryd.strconv_Atoi_ok s (by omega) n HA.out _).mono ?_; rintro e w1 ⟨rfl, hw1⟩
  have hb1 : Below w.heap.size w w1 := by
    rcases hw1 with rfl | ⟨t, rfl⟩
    · exact Below.refl _ _
    · exact Joins.below_bytesWorld _ _ _ _ (Nat.le_refl _)
  have HT1 := Lib.hid (HT.out.step hb1)
  clear hw1
  go_wp2_with fail
  go_at_call 38; refine (iFormatInt_lit HF.out _ HT1.out b1 b2).mono ?_; rintro e w2 ⟨rfl, hb2⟩
  go_wp2_with fail
  exact bodyPost_ret (v := .tuple #[.int .i64 n, .bool true]) (by simp [results, Tryd.results44, go_sem]) rfl ⟨rfl, hb1.trans (hb2.mono hb1.size)⟩

set_option maxHeartbeats 1000000 in
set_option maxRecDepth 100000 in
theorem iParseInt_none {s : ByteArray} (h : pI s.data.toList = none) (w : World) (ht : Tab10 w) (he : Errs w) (hs : s.size ≤ 281474976710656) :
    Calls Tryd.prog 44 #[.string s] w fun e w' => e = .returned (.tuple #[.int .i64 0, .bool false]) ∧ Below w.heap.size w w' := by
  have HT := Lib.hid ht; clear ht
  obtain ⟨⟨e1, c1, d1⟩, ⟨e2, c2, d2⟩⟩ := he
  cases ha : Lib.atoiAll s.data.toList with
  | ok m =>
    have hb := Lib.atoiAll_bounds ha
    have HA := Lib.hid ha
    have HF : RowKit.Hid (¬ fmtV m = s) := Lib.hid (fun e => by
      have := pI_itoa hb.1 hb.2
      rw [fmtV_eq.1 e, h] at this
      cases this)
    have hne := str_ne HF.out
    clear h ha c1 d1 c2 d2
    generalize hf : fmtV m = f at *
    have HFF := Lib.hid hf
    clear hf
    go_enter Tryd.func44, Tryd.ntmps44
    go_wp2_with fail
    go_at_call 65; refine (Tryd.strconv_Atoi_ok s (by omega) m HA.out _).mono ?_; rintro e w1 ⟨rfl, hw1⟩
    have hb1 : Below w.heap.size w w1 := by
      rcases hw1 with rfl | ⟨t, rfl⟩
      · exact Below.refl _ _
      · exact Joins.below_bytesWorld _ _ _ _ (Nat.le_refl _)
    have HT1 := Lib.hid (HT.out.step hb1)
    clear hw1
    go_wp2_with fail
    go_at_call 38; refine (iFormatInt_lit HFF.out _ HT1.out hb.1 hb.2).mono ?_; rintro e w2 ⟨rfl, hb2⟩
    go_wp2_with fail
    exact bodyPost_ret (v := .tuple #[.int .i64 0, .bool false]) (by simp [results, Tryd.results44, go_sem]) rfl ⟨rfl, hb1.trans (hb2.mono hb1.size)⟩
  | «syntax» =>
    have HA := Lib.hid ha
    clear h ha
    go_enter Tryd.func44, Tryd.ntmps44
    go_wp2_with fail
    go_at_call 65; refine (Tryd.strconv_Atoi_syntax s hs HA.out e1 _ c1 d1).mono ?_; rintro e w1 ⟨N, rfl, _, _, hb1⟩
    go_wp2_with fail
    exact bodyPost_ret (v := .tuple #[.int .i64 0, .bool false]) (by simp [results, Tryd.results44, go_sem]) rfl ⟨rfl, hb1⟩
  | range =>
    have HA := Lib.hid ha
    clear h ha
    go_enter Tryd.func44, Tryd.ntmps44
    go_wp2_with fail
    go_at_call 65; refine (Tryd.strconv_Atoi_range s hs HA.out e2 _ c2 d2).mono ?_; rintro e w1 ⟨N, rfl, _, _, hb1⟩
    go_wp2_with fail
    exact bodyPost_ret (v := .tuple #[.int .i64 0, .bool false]) (by simp [results, Tryd.results44, go_sem]) rfl ⟨rfl, hb1⟩

theorem fall_take {t : ByteArray} {k : Nat} (hk : k < t.size) {m : Int} (h : fallV 0 (t.data.toList.take k) = some m) :
    (m < (-9223372036854775808 + ((t[k].toNat : Int) - 48)).tdiv 10 → fallV 0 t.data.toList = none) ∧ (¬ m < (-9223372036854775808 + ((t[k].toNat : Int) - 48)).tdiv 10 → fallV 0 (t.data.toList.take (k + 1)) = some (m * 10 - ((t[k].toNat : Int) - 48))) := by
  constructor
  · intro hlt
    have : t.data.toList = t.data.toList.take k ++ t.data.toList.drop k := (List.take_append_drop _ _).symm
    rw [this, fall_append _ _ _ _ h, drop_at hk, fallV, if_pos hlt]
  · intro hge
    rw [take_snoc t k hk, fall_append _ _ _ _ h, fallV, if_neg hge, fallV]

theorem sgTrue {s : ByteArray} (h : 0 < s.size) (hc : (s[0].toNat : Int) = 45) : Sg true s.data.toList (s.extract 1 s.size).data.toList := by
  refine ⟨fun _ => ?_, fun h => by cases h⟩
  rw [bs_extract, bs_toList]
  have h0 := drop_at h
  rw [List.drop_zero] at h0
  have ht : (s.data.toList.drop 1).take (s.size - 1) = s.data.toList.drop 1 := List.take_of_length_le (by rw [List.length_drop]; simp)
  rw [ht, h0]
  have e : s[0] = 45 := UInt8.toNat_inj.1 (by have : (45 : UInt8).toNat = 45 := rfl; omega)
  rw [e]
  rfl

theorem sgFalse {s : ByteArray} (h : ∀ h0 : 0 < s.size, ¬ (s[0].toNat : Int) = 45) : Sg false s.data.toList s.data.toList := by
  refine ⟨fun h => (by cases h), fun _ => ⟨rfl, fun r e => ?_⟩⟩
  have h0 : 0 < s.size := by
    have : s.data.toList.length = s.size := by simp
    rw [e] at this
    simp at this
    omega
  have hd := drop_at h0
  rw [List.drop_zero, e] at hd
  injection hd with hd _
  exact h h0 (by rw [← hd]; rfl)

theorem neg45 {c : UInt8} : ((c.toNat : Int) = 45) ∨ ¬ ((c.toNat : Int) = 45) := Classical.em _

/-- The reference's result, by the parts: what is found at the end of the digits. -/
def endV (neg : Bool) (m : Int) (l : List UInt8) : Option Int := if neg = false ∧ m = -9223372036854775808 then none else if Lib.itoa (sgV neg m) = l then some (sgV neg m) else none

theorem endV_is {neg : Bool} {l t : List UInt8} (hs : Sg neg l t) {m : Int} (hf : fallV 0 t = some m) (h1 : -9223372036854775808 ≤ m) (h2 : m ≤ 0) : pI l = endV neg m l := by
  obtain ⟨a, b⟩ := pI_end hs hf h1 h2
  unfold endV
  split
  · rename_i h; exact a h
  · rename_i h
    have hn : neg = true ∨ m ≠ -9223372036854775808 := by
      cases neg with
      | true => exact .inl rfl
      | false => exact .inr (fun e => h ⟨rfl, e⟩)
    split
    · rename_i e; exact (b hn).1 e
    · rename_i e; exact (b hn).2 e

def PRes (o : Option Int) : Value := match o with | some n => .tuple #[.int .i64 n, .bool true] | none => .tuple #[.int .i64 0, .bool false]

end Go.Proofs.YtkmfejdmdiemaaaDoor
