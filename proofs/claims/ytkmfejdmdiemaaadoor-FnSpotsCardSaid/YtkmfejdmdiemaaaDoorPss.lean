/- Spots in writing, read back. Plain. -/
import Derived.Test.YtkmfejdmdiemaaaDoorFms
namespace Go.Proofs.YtkmfejdmdiemaaaDoor
open Go.ChangeShapes Go.WideShapes Go.ChangeAt Go.RowKit
attribute [local go_sem ↓] Go.wp_at_zero Go.wp_at_succ
set_option linter.unusedVariables false

def psC (s : ByteArray) (X p Y q : Int) : Option (Int × Int × Int) :=
  if (p ≤ 5000000000 ∧ q ≤ 5000000000) ∧ p * q.tdiv (gcdV p q) ≤ 5000000000 ∧ (-1000 * p ≤ X ∧ X ≤ 1000 * p) ∧ (-1000 * q ≤ Y ∧ Y ≤ 1000 * q) ∧ fmtS (X * q.tdiv (gcdV p q)) (Y * p.tdiv (gcdV p q)) (p * q.tdiv (gcdV p q)) = s
  then some (X * q.tdiv (gcdV p q), Y * p.tdiv (gcdV p q), p * q.tdiv (gcdV p q)) else none

def psL (s : ByteArray) : List ByteArray → Option (Int × Int × Int)
  | [a, b] => (prV a).bind fun x => (prV b).bind fun y => psC s x.1 x.2 y.1 y.2
  | _ => none
/-- What ParseSpot reads. -/
def psV (s : ByteArray) : Option (Int × Int × Int) := psL s (pcsB s ⟨#[44]⟩)

def PResS : Option (Int × Int × Int) → Value
  | some (x, y, d) => .tuple #[.agg #[.int .i64 x, .int .i64 y, .int .i64 d], .bool true]
  | none => .tuple #[.agg #[.int .i64 0, .int .i64 0, .int .i64 0], .bool false]

theorem gcdV_pos {p q : Int} (hp : 1 ≤ p) (hp2 : p ≤ 9223372036854775807) (hq : 1 ≤ q) (hq2 : q ≤ 9223372036854775807) : gcdV p q = (Int.gcd p q : Int) := by
  have h1 : leastB p = false := by unfold leastB; simp; omega
  have h2 : leastB q = false := by unfold leastB; simp; omega
  unfold gcdV; rw [h1, h2]; rfl
/-- Two lower numbers, their common part and the rests. -/
theorem lcm_parts {p q : Int} (hp : 1 ≤ p) (hp2 : p ≤ 9223372036854775807) (hq : 1 ≤ q) (hq2 : q ≤ 9223372036854775807) :
    ∃ g p' q' : Int, gcdV p q = g ∧ 1 ≤ g ∧ 1 ≤ p' ∧ 1 ≤ q' ∧ p = g * p' ∧ q = g * q' ∧ Nat.Coprime p'.natAbs q'.natAbs ∧ p.tdiv g = p' ∧ q.tdiv g = q' := by
  have gp : 0 < Int.gcd p q := Int.gcd_pos_of_ne_zero_right _ (by omega)
  obtain ⟨a, ha⟩ : ∃ a : Nat, p = (a : Int) := ⟨p.toNat, by omega⟩
  obtain ⟨b, hb⟩ : ∃ b : Nat, q = (b : Int) := ⟨q.toNat, by omega⟩
  subst ha; subst hb
  have e : Int.gcd (a : Int) (b : Int) = Nat.gcd a b := rfl
  have g0 : 0 < Nat.gcd a b := by rw [← e]; exact gp
  have m1 : Nat.gcd a b * (a / Nat.gcd a b) = a := Nat.mul_div_cancel' (Nat.gcd_dvd_left a b)
  have m2 : Nat.gcd a b * (b / Nat.gcd a b) = b := Nat.mul_div_cancel' (Nat.gcd_dvd_right a b)
  have p1 : 0 < a / Nat.gcd a b := Nat.div_pos (Nat.le_of_dvd (by omega) (Nat.gcd_dvd_left a b)) g0
  have p2 : 0 < b / Nat.gcd a b := Nat.div_pos (Nat.le_of_dvd (by omega) (Nat.gcd_dvd_right a b)) g0
  refine ⟨(Nat.gcd a b : Int), ((a / Nat.gcd a b : Nat) : Int), ((b / Nat.gcd a b : Nat) : Int), ?_, by omega, by omega, by omega, ?_, ?_, ?_, ?_, ?_⟩
  · rw [gcdV_pos hp hp2 hq hq2, e]
  · rw [← Int.natCast_mul, m1]
  · rw [← Int.natCast_mul, m2]
  · rw [Int.natAbs_natCast, Int.natAbs_natCast]; exact Nat.coprime_div_gcd_div_gcd g0
  · exact (Int.ofNat_tdiv a _).symm
  · exact (Int.ofNat_tdiv b _).symm

theorem joined_gcd {X Y g p' q' : Int} (hc : Nat.Coprime p'.natAbs q'.natAbs) (hX : Int.gcd X (g * p') = 1) (hY : Int.gcd Y (g * q') = 1) : gcdL [X * q', Y * p', g * p' * q'] = 1 := by
  rw [gcdL_three]
  unfold Int.gcd at *
  simp only [Int.natAbs_mul] at *
  generalize X.natAbs = x at *
  generalize Y.natAbs = y at *
  generalize g.natAbs = G at *
  generalize p'.natAbs = P at *
  generalize q'.natAbs = Q at *
  apply Nat.eq_one_of_dvd_one
  generalize hh : Nat.gcd (Nat.gcd (x * Q) (y * P)) (G * P * Q) = h
  have d1 : h ∣ x * Q := by rw [← hh]; exact Nat.dvd_trans (Nat.gcd_dvd_left _ _) (Nat.gcd_dvd_left _ _)
  have d2 : h ∣ y * P := by rw [← hh]; exact Nat.dvd_trans (Nat.gcd_dvd_left _ _) (Nat.gcd_dvd_right _ _)
  have d3 : h ∣ G * P * Q := by rw [← hh]; exact Nat.gcd_dvd_right _ _
  have e1 : h ∣ Q := by
    have := Nat.dvd_gcd d1 d3
    rw [Nat.gcd_mul_right, hX, Nat.one_mul] at this
    exact this
  have e2 : h ∣ P := by
    have := Nat.dvd_gcd d2 (show h ∣ G * Q * P by rw [Nat.mul_assoc, Nat.mul_comm Q P, ← Nat.mul_assoc]; exact d3)
    rw [Nat.gcd_mul_right, hY, Nat.one_mul] at this
    exact this
  have := Nat.dvd_gcd e2 e1
  rw [hc] at this
  exact this

theorem ratioOkV_gcd {n d : Int} (h : ratioOkV n d = true) : Int.gcd n d = 1 := by
  obtain ⟨⟨d1, d2⟩, n1, n2⟩ := ratioOkV_bounds h
  unfold ratioOkV at h
  simp only [Bool.and_eq_true, decide_eq_true_eq] at h
  have hg := h.2.2
  have h1 : leastB n = false := by unfold leastB; simp; omega
  have h2 : leastB d = false := by unfold leastB; simp; omega
  unfold gcdV at hg
  rw [h1, h2] at hg
  simp at hg
  omega

theorem joined_ok {X Y g p' q' : Int} (hc : Nat.Coprime p'.natAbs q'.natAbs) (hg : 1 ≤ g) (hp : 1 ≤ p') (hq : 1 ≤ q') (hX : ratioOkV X (g * p') = true) (hY : ratioOkV Y (g * q') = true)
    (hL : g * p' * q' ≤ 5000000000) (x1 : -1000 * (g * p') ≤ X) (x2 : X ≤ 1000 * (g * p')) (y1 : -1000 * (g * q') ≤ Y) (y2 : Y ≤ 1000 * (g * q')) : spotOkV (X * q') (Y * p') (g * p' * q') = true := by
  have gp : 0 < g * p' := Int.mul_pos (by omega) (by omega)
  have gpq : 0 < g * p' * q' := Int.mul_pos gp (by omega)
  have a1 : -1000 * (g * p') * q' ≤ X * q' := Int.mul_le_mul_of_nonneg_right x1 (by omega)
  have a2 : X * q' ≤ 1000 * (g * p') * q' := Int.mul_le_mul_of_nonneg_right x2 (by omega)
  have b1 : -1000 * (g * q') * p' ≤ Y * p' := Int.mul_le_mul_of_nonneg_right y1 (by omega)
  have b2 : Y * p' ≤ 1000 * (g * q') * p' := Int.mul_le_mul_of_nonneg_right y2 (by omega)
  have e : g * q' * p' = g * p' * q' := by grind
  rw [Int.mul_assoc] at a1 a2 b1 b2
  rw [e] at b1 b2
  unfold spotOkV
  rw [(inB_iff _ _ _).2 ⟨by omega, hL⟩, (inB_iff _ _ _).2 ⟨a1, a2⟩, (inB_iff _ _ _).2 ⟨b1, b2⟩, joined_gcd hc (ratioOkV_gcd hX) (ratioOkV_gcd hY)]
  rfl

/-- A valid spot stands for itself. -/
theorem spOf_ok {x y d : Int} (h : spotOkV x y d = true) : spOk x y d = true ∧ spX x y d = x ∧ spY x y d = y ∧ spD x y d = d := by
  obtain ⟨⟨d1, d2⟩, ⟨x1, x2⟩, y1, y2⟩ := spotOkV_bounds h
  have hg : gcdL [x, y, d] = 1 := by
    unfold spotOkV at h
    simp only [Bool.and_eq_true, decide_eq_true_eq] at h
    exact h.2.2.2
  have h1 : leastB x = false := by unfold leastB; simp; omega
  have h2 : leastB y = false := by unfold leastB; simp; omega
  have q1 : ∀ z : Int, quoV z 1 = z := by intro z; unfold quoV; rw [Nat.div_one]; split <;> omega
  have ho : spOk x y d = true := by
    unfold spOk; rw [hg, q1, q1, q1, h, h1, h2]; simp; omega
  unfold spX spY spD
  rw [ho, hg, if_pos rfl, if_pos rfl, if_pos rfl, q1, q1, q1]
  exact ⟨rfl, rfl, rfl, rfl⟩

theorem coprime_lcm {D1 D2 g1 g2 : Nat} (h0 : 0 < D1 * g1) (h : D1 * g1 = D2 * g2) (hc : Nat.Coprime g1 g2) : ∃ k, 0 < k ∧ D1 = k * g2 ∧ D2 = k * g1 := by
  have hd : g2 ∣ D1 := Nat.Coprime.dvd_of_dvd_mul_right (Nat.coprime_comm.1 hc) ⟨D2, by rw [h, Nat.mul_comm]⟩
  obtain ⟨k, hk⟩ := hd
  have g20 : 0 < g2 := by
    rcases Nat.eq_zero_or_pos g2 with e | e
    · subst e; simp at h; omega
    · exact e
  have hD2 : D2 = k * g1 := by
    have : g2 * (k * g1) = g2 * D2 := by rw [← Nat.mul_assoc, ← hk, h, Nat.mul_comm]
    exact (Nat.eq_of_mul_eq_mul_left g20 this).symm
  refine ⟨k, ?_, by rw [hk, Nat.mul_comm], hD2⟩
  rcases Nat.eq_zero_or_pos k with e | e
  · subst e; simp at hk; subst hk; simp at h0
  · exact e

theorem tdiv_cancel {k a : Int} (hk : 1 ≤ k) : (k * a).tdiv k = a := Int.mul_tdiv_cancel_left a (by omega)

theorem psC_back {x y d : Int} (h : spotOkV x y d = true) : psC (fmtS x y d) (ratN x d) (ratD x d) (ratN y d) (ratD y d) = some (x, y, d) := by
  obtain ⟨⟨d1, d2⟩, ⟨x1, x2⟩, y1, y2⟩ := spotOkV_bounds h
  obtain ⟨k1, p1, p2, n1, n2, ex, ed⟩ := ratPart d1 d2 x1 x2
  obtain ⟨k2, q1, q2, m1, m2, ey, ed'⟩ := ratPart d1 d2 y1 y2
  have hg : gcdL [x, y, d] = 1 := by
    unfold spotOkV at h
    simp only [Bool.and_eq_true, decide_eq_true_eq] at h
    exact h.2.2.2
  have hc : Nat.Coprime (Int.gcd x d) (Int.gcd y d) := by
    rw [gcdL_three] at hg
    unfold Int.gcd at *
    apply Nat.eq_one_of_dvd_one
    rw [← hg]
    refine Nat.dvd_gcd (Nat.dvd_gcd (Nat.dvd_trans (Nat.gcd_dvd_left _ _) (Nat.gcd_dvd_left _ _)) (Nat.dvd_trans (Nat.gcd_dvd_right _ _) (Nat.gcd_dvd_left _ _))) (Nat.dvd_trans (Nat.gcd_dvd_left _ _) (Nat.gcd_dvd_right _ _))
  have gp1 : 0 < Int.gcd x d := Int.gcd_pos_of_ne_zero_right _ (by omega)
  have gp2 : 0 < Int.gcd y d := Int.gcd_pos_of_ne_zero_right _ (by omega)
  generalize ratN x d = N1 at *
  generalize ratN y d = N2 at *
  generalize ratD x d = E1 at *
  generalize ratD y d = E2 at *
  generalize Int.gcd x d = g1 at *
  generalize Int.gcd y d = g2 at *
  obtain ⟨D1, rfl⟩ : ∃ z : Nat, E1 = (z : Int) := ⟨E1.toNat, by omega⟩
  obtain ⟨D2, rfl⟩ : ∃ z : Nat, E2 = (z : Int) := ⟨E2.toNat, by omega⟩
  obtain ⟨D, hD⟩ : ∃ D : Nat, d = (D : Int) := ⟨d.toNat, by omega⟩
  have f1 : D1 * g1 = D := by have := ed.trans hD; exact_mod_cast this
  have f2 : D2 * g2 = D := by have := ed'.trans hD; exact_mod_cast this
  obtain ⟨k, hk, e1, e2⟩ := coprime_lcm (by omega) (f1.trans f2.symm) hc
  have c1 : (D1 : Int) = (k : Int) * (g2 : Int) := by rw [e1]; simp
  have c2 : (D2 : Int) = (k : Int) * (g1 : Int) := by rw [e2]; simp
  have hgg : gcdV (D1 : Int) (D2 : Int) = (k : Int) := by
    rw [gcdV_pos (by omega) (by omega) (by omega) (by omega)]
    show ((Nat.gcd D1 D2 : Nat) : Int) = k
    rw [e1, e2, Nat.gcd_mul_left, Nat.gcd_comm, hc, Nat.mul_one]
  have t1 : (D1 : Int).tdiv (k : Int) = (g2 : Int) := by rw [c1]; exact tdiv_cancel (by omega)
  have t2 : (D2 : Int).tdiv (k : Int) = (g1 : Int) := by rw [c2]; exact tdiv_cancel (by omega)
  have b1 : -1000 * (D1 : Int) ≤ N1 ∧ N1 ≤ 1000 * (D1 : Int) := by
    constructor
    · refine Int.le_of_mul_le_mul_right (a := (g1 : Int)) ?_ (by omega)
      rw [Int.mul_assoc, ed, ex]; exact x1
    · refine Int.le_of_mul_le_mul_right (a := (g1 : Int)) ?_ (by omega)
      rw [Int.mul_assoc, ed, ex]; exact x2
  have b2 : -1000 * (D2 : Int) ≤ N2 ∧ N2 ≤ 1000 * (D2 : Int) := by
    constructor
    · refine Int.le_of_mul_le_mul_right (a := (g2 : Int)) ?_ (by omega)
      rw [Int.mul_assoc, ed', ey]; exact y1
    · refine Int.le_of_mul_le_mul_right (a := (g2 : Int)) ?_ (by omega)
      rw [Int.mul_assoc, ed', ey]; exact y2
  unfold psC
  rw [hgg, t1, t2, ed, ex, ey, if_pos ⟨⟨p2, q2⟩, d2, b1, b2, rfl⟩]

/-- What was written is read back. -/
theorem amg_fmtR {n d : Int} : ∀ c ∈ (fmtR n d).data.toList, amg ⟨#[44]⟩ c = false := by
  intro c hc
  unfold fmtR at hc
  split at hc
  · split at hc
    · rw [fmtV_bytes] at hc; exact amg_itoa (.inl rfl) c hc
    · have e : (fmtV n ++ ⟨#[47]⟩ ++ fmtV d).data.toList = Lib.itoa n ++ 47 :: Lib.itoa d := by
        rw [← fmtV_bytes n, ← fmtV_bytes d]; simp [ByteArray.data_append]
      rw [e] at hc
      rcases List.mem_append.1 hc with hc | hc
      · exact amg_itoa (.inl rfl) c hc
      · rcases List.mem_cons.1 hc with rfl | hc
        · rw [amg_one]; rfl
        · exact amg_itoa (.inl rfl) c hc
  · simp at hc

theorem psV_fmtS {x y d : Int} (h : spotOkV x y d = true) : psV (fmtS x y d) = some (x, y, d) := by
  obtain ⟨⟨d1, d2⟩, ⟨x1, x2⟩, y1, y2⟩ := spotOkV_bounds h
  obtain ⟨k1, _⟩ := ratPart d1 d2 x1 x2
  obtain ⟨k2, _⟩ := ratPart d1 d2 y1 y2
  have e : pcsB (fmtS x y d) ⟨#[44]⟩ = [fmtR (ratN x d) (ratD x d), fmtR (ratN y d) (ratD y d)] := by
    rw [fmtS_yes h, pcsB_cut amg_fmtR, pcsB_no amg_fmtR]
  unfold psV
  rw [e, psL, prV_fmtR k1]
  simp only [Option.bind_some]
  rw [prV_fmtR k2]
  exact psC_back h

end Go.Proofs.YtkmfejdmdiemaaaDoor
