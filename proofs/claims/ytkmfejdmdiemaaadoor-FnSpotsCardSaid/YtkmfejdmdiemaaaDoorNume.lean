/- Numerals: the digits of a number, read again. Plain. -/
import Derived.Lib.ItoaLen
import Derived.Lib.AtoiAllCases
namespace Go.Proofs.YtkmfejdmdiemaaaDoor
open Go.Lib
set_option linter.unusedVariables false

def isDg (c : UInt8) : Prop := 48 ≤ c.toNat ∧ c.toNat ≤ 57

theorem dg_byte {d : Nat} (h : d < 10) : (UInt8.ofNat (48 + d)).toNat = 48 + d := by
  rw [UInt8.toNat_ofNat']; omega

theorem dec_small {u : Nat} (h : u < 10) : decDigits u = [UInt8.ofNat (48 + u)] := by rw [decDigits, dif_pos h]

theorem dec_big {u : Nat} (h : ¬ u < 10) : decDigits u = decDigits (u / 10) ++ [UInt8.ofNat (48 + u % 10)] := by rw [decDigits, dif_neg h]

theorem dec_digits (u : Nat) : ∀ c ∈ decDigits u, isDg c := by
  induction u using Nat.strongRecOn with
  | _ u ih =>
    by_cases h : u < 10
    · rw [dec_small h]
      intro c hc
      rw [List.mem_singleton] at hc
      subst hc
      unfold isDg
      rw [dg_byte h]; omega
    · rw [dec_big h]
      intro c hc
      rcases List.mem_append.1 hc with hc | hc
      · exact ih _ (by omega) c hc
      · rw [List.mem_singleton] at hc
        subst hc
        unfold isDg
        rw [dg_byte (by omega)]; omega

theorem dec_ne (u : Nat) : decDigits u ≠ [] := by
  intro e
  have := decDigits_length u
  rw [e] at this
  have := nDigits_pos u
  simp at *
  omega

theorem parse_append : ∀ (l r : List UInt8) (acc a : Nat), parseUint10 acc l = .ok a → parseUint10 acc (l ++ r) = parseUint10 a r
  | [], r, acc, a, h => by
    simp only [parseUint10] at h
    injection h with h
    subst h
    rfl
  | c :: l, r, acc, a, h => by
    simp only [parseUint10] at h
    rw [List.cons_append, parseUint10]
    split at h
    · rename_i h1
      rw [if_pos h1]
      split at h
      · cases h
      · rename_i h2
        rw [if_neg h2]
        split at h
        · cases h
        · rename_i h3
          rw [if_neg h3]
          exact parse_append l r _ a h
    · cases h

theorem parse_dec (u : Nat) (h : u < 18446744073709551616) : parseUint10 0 (decDigits u) = .ok u := by
  induction u using Nat.strongRecOn with
  | _ u ih =>
    by_cases hs : u < 10
    · rw [dec_small hs, parseUint10, dg_byte hs, if_pos (by omega), if_neg (by omega), if_neg (by omega), parseUint10]
      congr 1; omega
    · rw [dec_big hs, parse_append _ _ _ _ (ih (u / 10) (by omega) (by omega)), parseUint10, dg_byte (by omega), if_pos (by omega), if_neg (by omega), if_neg (by omega), parseUint10]
      congr 1; omega

theorem parseMag_dec (u : Nat) (h : u < 18446744073709551616) : parseMag (decDigits u) = .ok u := by
  unfold parseMag; rw [if_neg (dec_ne u), parse_dec u h]

/-- What is written is read again. -/
theorem atoi_itoa {n : Int} (h1 : -9223372036854775808 ≤ n) (h2 : n ≤ 9223372036854775807) : atoiAll (itoa n) = .ok n := by
  by_cases hn : n < 0
  · obtain ⟨u, rfl⟩ : ∃ u : Nat, n = -(u : Int) := ⟨n.natAbs, by omega⟩
    rw [itoa_neg u (by omega), atoiAll_minus, parseMag_dec u (by omega), signed, if_neg (by omega)]
  · obtain ⟨u, rfl⟩ : ∃ u : Nat, n = u := ⟨n.toNat, by omega⟩
    rw [itoa_nonneg]
    cases he : decDigits u with
    | nil => exact absurd he (dec_ne u)
    | cons c r =>
      have hc : isDg c := dec_digits u c (by rw [he]; exact List.mem_cons_self)
      unfold isDg at hc
      rw [atoiAll_plain c r (by omega) (by omega), ← he, parseMag_dec u (by omega), signless, if_neg (by omega)]

theorem itoa_inj {n m : Int} (h1 : -9223372036854775808 ≤ n) (h2 : n ≤ 9223372036854775807) (h3 : -9223372036854775808 ≤ m) (h4 : m ≤ 9223372036854775807) (h : itoa n = itoa m) : n = m := by
  have a := atoi_itoa h1 h2
  rw [h, atoi_itoa h3 h4] at a
  injection a with a
  exact a.symm

/-- What ParseInt finds: the number that is written so. -/
def pI (l : List UInt8) : Option Int :=
  match atoiAll l with
  | .ok n => if itoa n = l then some n else none
  | _ => none

theorem pI_itoa {n : Int} (h1 : -9223372036854775808 ≤ n) (h2 : n ≤ 9223372036854775807) : pI (itoa n) = some n := by
  unfold pI; rw [atoi_itoa h1 h2]; simp

theorem pI_some {l : List UInt8} {n : Int} (h : pI l = some n) : itoa n = l ∧ -9223372036854775808 ≤ n ∧ n ≤ 9223372036854775807 := by
  unfold pI at h
  cases ha : atoiAll l with
  | ok v =>
    rw [ha] at h
    simp only at h
    split at h
    · rename_i e
      injection h with h
      subst h
      exact ⟨e, atoiAll_bounds ha⟩
    · cases h
  | _ => rw [ha] at h; cases h

theorem pI_none {l : List UInt8} (h : pI l = none) {n : Int} (h1 : -9223372036854775808 ≤ n) (h2 : n ≤ 9223372036854775807) : itoa n ≠ l := by
  intro e
  rw [← e, pI_itoa h1 h2] at h
  cases h

/-- The reference's reading: digits are taken from a number that only falls. -/
def fallV : Int → List UInt8 → Option Int
  | n, [] => some n
  | n, c :: r => if n < (-9223372036854775808 + ((c.toNat : Int) - 48)).tdiv 10 then none else fallV (n * 10 - ((c.toNat : Int) - 48)) r

theorem fall_append : ∀ (l r : List UInt8) (n m : Int), fallV n l = some m → fallV n (l ++ r) = fallV m r
  | [], r, n, m, h => by
    injection h with h
    subst h; rfl
  | c :: l, r, n, m, h => by
    rw [List.cons_append, fallV]
    rw [fallV] at h
    split at h
    · cases h
    · rename_i h1
      rw [if_neg h1]
      exact fall_append l r _ m h

theorem fall_step {q d : Nat} (hd : d < 10) (h : q * 10 + d ≤ 9223372036854775808) : ¬ (-(q : Int)) < (-9223372036854775808 + (d : Int)).tdiv 10 := by
  have e : (-9223372036854775808 + (d : Int)).tdiv 10 = -((9223372036854775808 - (d : Int)) / 10) := by
    rw [show -9223372036854775808 + (d : Int) = -(9223372036854775808 - (d : Int)) by omega, Int.neg_tdiv, Int.tdiv_eq_ediv_of_nonneg (by omega)]
  rw [e]
  omega

theorem fall_dec (u : Nat) (h : u ≤ 9223372036854775808) : fallV 0 (decDigits u) = some (-(u : Int)) := by
  induction u using Nat.strongRecOn with
  | _ u ih =>
    by_cases hs : u < 10
    · rw [dec_small hs, fallV, dg_byte hs, show ((48 + u : Nat) : Int) - 48 = (u : Int) by omega]
      have := fall_step (q := 0) hs (by omega)
      rw [if_neg (by simpa using this), fallV]
      congr 1; omega
    · have hm : u % 10 < 10 := by omega
      rw [dec_big hs, fall_append _ _ _ _ (ih (u / 10) (by omega) (by omega)), fallV, dg_byte hm, show ((48 + u % 10 : Nat) : Int) - 48 = ((u % 10 : Nat) : Int) by omega, if_neg (fall_step hm (by omega)), fallV]
      congr 1; omega

theorem fall_bounds : ∀ (l : List UInt8) (n m : Int), (∀ c ∈ l, isDg c) → -9223372036854775808 ≤ n → n ≤ 0 → fallV n l = some m → -9223372036854775808 ≤ m ∧ m ≤ 0
  | [], n, m, _, h1, h2, h => by
    injection h with h
    subst h; exact ⟨h1, h2⟩
  | c :: l, n, m, hc, h1, h2, h => by
    rw [fallV] at h
    split at h
    · cases h
    · rename_i h3
      have hd := hc c List.mem_cons_self
      unfold isDg at hd
      have e : (-9223372036854775808 + ((c.toNat : Int) - 48)).tdiv 10 = -((9223372036854775808 - ((c.toNat : Int) - 48)) / 10) := by
        rw [show -9223372036854775808 + ((c.toNat : Int) - 48) = -(9223372036854775808 - ((c.toNat : Int) - 48)) by omega, Int.neg_tdiv, Int.tdiv_eq_ediv_of_nonneg (by omega)]
      rw [e] at h3
      exact fall_bounds l _ m (fun x hx => hc x (List.mem_cons_of_mem _ hx)) (by omega) (by omega) h

theorem nDigits_19 {u : Nat} (h : u ≤ 9223372036854775808) : nDigits u ≤ 19 := by
  have key : ∀ (k u : Nat), 1 ≤ k → u < 10 ^ k → nDigits u ≤ k := by
    intro k
    induction k with
    | zero => intro u h; omega
    | succ k ih =>
      intro u _ hu
      by_cases hs : u < 10
      · rw [nDigits_small hs]; omega
      · rw [nDigits_big hs]
        rcases Nat.eq_zero_or_pos k with rfl | hk
        · simp at hu; omega
        · have := ih (u / 10) hk (by rw [Nat.pow_succ] at hu; omega)
          omega
  exact key 19 u (by omega) (by omega)

/-- What a negative number's numeral is made of. -/
theorem itoa_neg_big {n : Int} (h : n < 0) (hb : ¬ n.tdiv 10 = 0) : itoa n = itoa (n.tdiv 10) ++ [UInt8.ofNat (48 + (-(n.tmod 10)).toNat)] := by
  obtain ⟨u, rfl⟩ : ∃ u : Nat, n = -(u : Int) := ⟨n.natAbs, by omega⟩
  have e1 : (-(u : Int)).tdiv 10 = -((u / 10 : Nat) : Int) := by rw [Int.neg_tdiv, Int.tdiv_eq_ediv_of_nonneg (by omega)]; omega
  have e2 : (-(u : Int)).tmod 10 = -((u % 10 : Nat) : Int) := by rw [Int.neg_tmod, Int.tmod_eq_emod_of_nonneg (by omega)]; omega
  rw [e1] at hb
  rw [e1, e2, itoa_neg u (by omega), itoa_neg (u / 10) (by omega), dec_big (by omega), show (-(-((u % 10 : Nat) : Int))).toNat = u % 10 by omega]
  simp

theorem itoa_neg_small {n : Int} (h : n < 0) (hb : n.tdiv 10 = 0) : itoa n = [45, UInt8.ofNat (48 + (-n).toNat)] := by
  obtain ⟨u, rfl⟩ : ∃ u : Nat, n = -(u : Int) := ⟨n.natAbs, by omega⟩
  have e1 : (-(u : Int)).tdiv 10 = -((u / 10 : Nat) : Int) := by rw [Int.neg_tdiv, Int.tdiv_eq_ediv_of_nonneg (by omega)]; omega
  rw [e1] at hb
  rw [itoa_neg u (by omega), dec_small (by omega)]
  simp

end Go.Proofs.YtkmfejdmdiemaaaDoor
