/- Plane geometry of half planes with integer coefficients, without a program: order by angle, insertion into a sorted list. -/
namespace Go.Proofs.Ythdaoadleeelnaa
set_option linter.unusedSimpArgs false
set_option linter.unusedVariables false

/-- A half plane: its two coefficients and its top. -/
abbrev Hp := Int × Int × Int

def crH (g h : Hp) : Int := g.1 * h.2.1 - g.2.1 * h.1

def upH (h : Hp) : Bool := decide (0 < h.2.1) || (h.2.1 == 0 && decide (0 < h.1))

def befH (g h : Hp) : Bool := if upH g != upH h then upH g else decide (0 < crH g h)

def sdH (g h : Hp) : Bool := crH g h == 0 && upH g == upH h

def szH (h : Hp) : Int := if h.1 = 0 then (h.2.1.natAbs : Int) else (h.1.natAbs : Int)

def ltH (h g : Hp) : Prop := h.2.2 * szH g < g.2.2 * szH h
instance (h g : Hp) : Decidable (ltH h g) := by unfold ltH; infer_instance

def tgH (g h : Hp) : Hp := if ltH h g then h else g

def dirH (h : Hp) : Prop := ¬ (h.1 = 0 ∧ h.2.1 = 0)

def primH (h : Hp) : Prop := dirH h ∧ Nat.gcd (Nat.gcd h.1.natAbs h.2.1.natAbs) h.2.2.natAbs = 1

theorem crH_neg (g h : Hp) : crH h g = -crH g h := by unfold crH; grind

theorem upH_true {h : Hp} : upH h = true ↔ (0 < h.2.1 ∨ (h.2.1 = 0 ∧ 0 < h.1)) := by unfold upH; simp

theorem upH_false {h : Hp} : upH h = false ↔ (h.2.1 < 0 ∨ (h.2.1 = 0 ∧ h.1 ≤ 0)) := by
  rw [← Bool.not_eq_true, upH_true]; omega

/-- Of two directions exactly one comes first, or they are the same. -/
theorem tri (g h : Hp) : (befH g h = true ∧ sdH g h = false ∧ befH h g = false ∧ sdH h g = false) ∨ (befH g h = false ∧ sdH g h = true ∧ befH h g = false ∧ sdH h g = true) ∨ (befH g h = false ∧ sdH g h = false ∧ befH h g = true ∧ sdH h g = false) := by
  unfold befH sdH
  rw [crH_neg g h]
  cases hg : upH g <;> cases hh : upH h <;> simp <;> omega

theorem szH_pos {h : Hp} (hd : dirH h) : 0 < szH h := by
  unfold szH dirH at *
  split <;> omega

theorem sd_scale {g x : Hp} (hg : dirH g) (hx : dirH x) (h : sdH x g = true) : szH g * x.1 = szH x * g.1 ∧ szH g * x.2.1 = szH x * g.2.1 := by
  obtain ⟨a, b, c⟩ := x
  obtain ⟨a', b', c'⟩ := g
  unfold sdH crH at h
  simp only [Bool.and_eq_true, beq_iff_eq] at h
  obtain ⟨h1, h2⟩ := h
  unfold dirH at hg hx
  unfold szH
  simp only at *
  have hup : (0 < b ∨ (b = 0 ∧ 0 < a)) ↔ (0 < b' ∨ (b' = 0 ∧ 0 < a')) := by
    rw [← @upH_true (a, b, c), ← @upH_true (a', b', c'), h2]
  by_cases ha : a = 0
  · subst ha
    have hb : b ≠ 0 := by omega
    have ha' : a' = 0 := by
      have : b * a' = 0 := by omega
      rcases Int.mul_eq_zero.1 this with h | h
      · exact absurd h hb
      · exact h
    subst ha'
    simp only [if_true]
    refine ⟨by omega, ?_⟩
    rcases Int.lt_or_gt_of_ne hb with h | h
    · have h' : b' < 0 := by omega
      rw [show (b'.natAbs : Int) = -b' by omega, show (b.natAbs : Int) = -b by omega]; grind
    · have h' : 0 < b' := by omega
      rw [show (b'.natAbs : Int) = b' by omega, show (b.natAbs : Int) = b by omega]; grind
  · have ha' : a' ≠ 0 := by
      intro h
      subst h
      have : a * b' = 0 := by omega
      rcases Int.mul_eq_zero.1 this with h | h
      · exact ha h
      · subst h; omega
    rw [if_neg ha', if_neg ha]
    have hs : (0 < a ↔ 0 < a') := by
      rcases Int.lt_trichotomy b 0 with h | h | h
      · have hb' : b' < 0 := by
          rcases Int.lt_trichotomy b' 0 with h' | h' | h'
          · exact h'
          · subst h'
            have : b * a' = 0 := by omega
            rcases Int.mul_eq_zero.1 this with h | h <;> omega
          · omega
        constructor
        · intro h3
          have h4 := Int.mul_neg_of_pos_of_neg h3 hb'
          rcases Int.lt_or_gt_of_ne ha' with h5 | h5
          · have := Int.mul_pos_of_neg_of_neg h h5; omega
          · exact h5
        · intro h3
          have h4 := Int.mul_neg_of_neg_of_pos h h3
          rcases Int.lt_or_gt_of_ne ha with h5 | h5
          · have := Int.mul_pos_of_neg_of_neg h5 hb'; omega
          · exact h5
      · subst h
        have hb' : b' = 0 := by
          have : a * b' = 0 := by omega
          rcases Int.mul_eq_zero.1 this with h | h
          · exact absurd h ha
          · exact h
        subst hb'
        omega
      · have hb' : 0 < b' := by
          rcases Int.lt_trichotomy b' 0 with h' | h' | h'
          · omega
          · subst h'
            have : b * a' = 0 := by omega
            rcases Int.mul_eq_zero.1 this with h | h <;> omega
          · exact h'
        constructor
        · intro h3
          have h4 := Int.mul_pos h3 hb'
          rcases Int.lt_or_gt_of_ne ha' with h5 | h5
          · have := Int.mul_neg_of_pos_of_neg h h5; omega
          · exact h5
        · intro h3
          have h4 := Int.mul_pos h h3
          rcases Int.lt_or_gt_of_ne ha with h5 | h5
          · have := Int.mul_neg_of_neg_of_pos h5 hb'; omega
          · exact h5
    by_cases hp : 0 < a
    · have hp' := hs.1 hp
      rw [show (a'.natAbs : Int) = a' by omega, show (a.natAbs : Int) = a by omega]
      exact ⟨by grind, by grind⟩
    · have hp' : ¬ 0 < a' := fun h => hp (hs.2 h)
      rw [show (a'.natAbs : Int) = -a' by omega, show (a.natAbs : Int) = -a by omega]
      exact ⟨by grind, by grind⟩

theorem op_scale {g x : Hp} (hg : dirH g) (hx : dirH x) (h0 : crH x g = 0) (h : sdH x g = false) : szH g * x.1 = -(szH x * g.1) ∧ szH g * x.2.1 = -(szH x * g.2.1) := by
  have hn : dirH (-g.1, -g.2.1, g.2.2) := by unfold dirH at *; simp only at *; omega
  have hs : sdH x (-g.1, -g.2.1, g.2.2) = true := by
    have hu : upH x ≠ upH g := by
      intro he; unfold sdH at h; rw [h0, he] at h; simp at h
    have hu' : upH (-g.1, -g.2.1, g.2.2) = !upH g := by
      cases hc : upH g
      · rw [upH_false] at hc
        rw [Bool.not_false, upH_true]
        unfold dirH at hg
        simp only
        omega
      · rw [upH_true] at hc
        rw [Bool.not_true, upH_false]
        simp only
        omega
    unfold sdH
    rw [hu']
    have : crH x (-g.1, -g.2.1, g.2.2) = 0 := by
      unfold crH at *
      simp only
      grind
    rw [this]
    cases hc : upH x <;> cases hc' : upH g <;> simp_all
  have hz : szH (-g.1, -g.2.1, g.2.2) = szH g := by
    unfold szH; simp only
    split <;> split <;> omega
  have := sd_scale hn hx hs
  rw [hz] at this
  simp only at this
  refine ⟨this.1.trans (by grind), this.2.trans (by grind)⟩

theorem pos_of_pos_mul {a b : Int} (ha : 0 < a) (h : 0 < a * b) : 0 < b := by
  rcases Int.lt_trichotomy b 0 with hb | hb | hb
  · have := Int.mul_neg_of_pos_of_neg ha hb; omega
  · subst hb; omega
  · exact hb

theorem pos_of_mul {s t u v : Int} (hs : 0 < s) (hu : 0 < u) (h : s * t = u * v) : 0 < t ↔ 0 < v := by
  constructor
  · intro ht
    have := Int.mul_pos hs ht
    rw [h] at this
    exact pos_of_pos_mul hu this
  · intro hv
    have := Int.mul_pos hu hv
    rw [← h] at this
    exact pos_of_pos_mul hs this

theorem bef_congr {x g k : Hp} (hx : dirH x) (hg : dirH g) (h : sdH x g = true) : befH x k = befH g k ∧ befH k x = befH k g ∧ sdH x k = sdH g k ∧ sdH k x = sdH k g := by
  obtain ⟨s1, s2⟩ := sd_scale hg hx h
  have p1 := szH_pos hg
  have p2 := szH_pos hx
  have hu : upH x = upH g := by
    unfold sdH at h; simp only [Bool.and_eq_true, beq_iff_eq] at h; exact h.2
  have e : szH g * crH x k = szH x * crH g k := by unfold crH; grind
  have e' : szH g * crH k x = szH x * crH k g := by unfold crH; grind
  have z : crH x k = 0 ↔ crH g k = 0 := by
    constructor
    · intro h; rw [h] at e
      rcases Int.mul_eq_zero.1 (show szH x * crH g k = 0 by omega) with h | h
      · omega
      · exact h
    · intro h; rw [h] at e
      rcases Int.mul_eq_zero.1 (show szH g * crH x k = 0 by omega) with h | h
      · omega
      · exact h
  have z' : crH k x = 0 ↔ crH k g = 0 := by
    rw [crH_neg x k, crH_neg g k]; omega
  have q : decide (0 < crH x k) = decide (0 < crH g k) := decide_eq_decide.2 (pos_of_mul p1 p2 e)
  have q' : decide (0 < crH k x) = decide (0 < crH k g) := decide_eq_decide.2 (pos_of_mul p1 p2 e')
  have y : (crH x k == 0) = (crH g k == 0) := by rw [Bool.eq_iff_iff, beq_iff_eq, beq_iff_eq]; exact z
  have y' : (crH k x == 0) = (crH k g == 0) := by rw [Bool.eq_iff_iff, beq_iff_eq, beq_iff_eq]; exact z'
  unfold befH sdH
  rw [hu, q, q', y, y']
  exact ⟨rfl, rfl, rfl, rfl⟩

theorem bef_trans {g h k : Hp} (hg : dirH g) (hh : dirH h) (hk : dirH k) (h1 : befH g h = true) (h2 : befH h k = true) : befH g k = true := by
  have key : upH g = upH h → upH h = upH k → 0 < crH g h → 0 < crH h k → 0 < crH g k := by
    intro u1 u2 c1 c2
    have i1 : crH g k * h.2.1 = crH g h * k.2.1 + crH h k * g.2.1 := by unfold crH; grind
    have i2 : crH g k * h.1 = crH g h * k.1 + crH h k * g.1 := by unfold crH; grind
    unfold dirH at hg hh hk
    cases ug : upH g
    · have e1 := upH_false.1 ug
      have e2 := upH_false.1 (u1 ▸ ug)
      have e3 := upH_false.1 (u2 ▸ u1 ▸ ug)
      have t : 0 < crH g k ∨ crH g k ≤ 0 := by omega
      rcases t with t | t
      · exact t
      · exfalso
        rcases (show h.2.1 < 0 ∨ 0 ≤ h.2.1 by omega) with hb | hb
        · have m := Int.mul_nonneg_of_nonpos_of_nonpos t (Int.le_of_lt hb)
          have m1 : crH g h * k.2.1 ≤ 0 := Int.mul_nonpos_of_nonneg_of_nonpos (Int.le_of_lt c1) (by omega)
          have m2 : crH h k * g.2.1 ≤ 0 := Int.mul_nonpos_of_nonneg_of_nonpos (Int.le_of_lt c2) (by omega)
          have z1 : crH g h * k.2.1 = 0 := by omega
          have z2 : crH h k * g.2.1 = 0 := by omega
          have z1' : k.2.1 = 0 := by rcases Int.mul_eq_zero.1 z1 with h | h <;> omega
          have z2' : g.2.1 = 0 := by rcases Int.mul_eq_zero.1 z2 with h | h <;> omega
          have f1 : crH g h = g.1 * h.2.1 := by unfold crH; rw [z2']; omega
          have f2 : crH h k = -(h.2.1 * k.1) := by unfold crH; rw [z1']; omega
          have := Int.mul_nonneg_of_nonpos_of_nonpos (show h.2.1 ≤ 0 by omega) (show k.1 ≤ 0 by omega)
          omega
        · have hb0 : h.2.1 = 0 := by omega
          have f1 : crH g h = -(g.2.1 * h.1) := by unfold crH; rw [hb0]; omega
          have := Int.mul_nonneg_of_nonpos_of_nonpos (show g.2.1 ≤ 0 by omega) (show h.1 ≤ 0 by omega)
          omega
    · have e1 := upH_true.1 ug
      have e2 := upH_true.1 (u1 ▸ ug)
      have e3 := upH_true.1 (u2 ▸ u1 ▸ ug)
      have t : 0 < crH g k ∨ crH g k ≤ 0 := by omega
      rcases t with t | t
      · exact t
      · exfalso
        rcases (show 0 < h.2.1 ∨ h.2.1 ≤ 0 by omega) with hb | hb
        · have m := Int.mul_nonpos_of_nonpos_of_nonneg t (Int.le_of_lt hb)
          have m1 := Int.mul_nonneg (Int.le_of_lt c1) (show 0 ≤ k.2.1 by omega)
          have m2 := Int.mul_nonneg (Int.le_of_lt c2) (show 0 ≤ g.2.1 by omega)
          have z1 : crH g h * k.2.1 = 0 := by omega
          have z2 : crH h k * g.2.1 = 0 := by omega
          have z1' : k.2.1 = 0 := by rcases Int.mul_eq_zero.1 z1 with h | h <;> omega
          have z2' : g.2.1 = 0 := by rcases Int.mul_eq_zero.1 z2 with h | h <;> omega
          have f2 : crH h k = -(h.2.1 * k.1) := by unfold crH; rw [z1']; omega
          have := Int.mul_nonneg (show 0 ≤ h.2.1 by omega) (show 0 ≤ k.1 by omega)
          omega
        · have hb0 : h.2.1 = 0 := by omega
          have f1 : crH g h = -(g.2.1 * h.1) := by unfold crH; rw [hb0]; omega
          have := Int.mul_nonneg (show 0 ≤ g.2.1 by omega) (show 0 ≤ h.1 by omega)
          omega
  unfold befH at *
  cases ug : upH g <;> cases uh : upH h <;> cases uk : upH k <;> simp_all

theorem lt_trans' {h g x : Hp} (hg : dirH g) (hh : dirH h) (hx : dirH x) (h1 : ltH h g) (h2 : ltH g x) : ltH h x := by
  unfold ltH at *
  have p1 := szH_pos hg
  have p2 := szH_pos hh
  have p3 := szH_pos hx
  have a1 := Int.mul_lt_mul_of_pos_right h1 p3
  have a2 := Int.mul_lt_mul_of_pos_right h2 p2
  have : h.2.2 * szH x * szH g < x.2.2 * szH h * szH g := by
    have e1 : h.2.2 * szH x * szH g = h.2.2 * szH g * szH x := by grind
    have e2 : x.2.2 * szH h * szH g = x.2.2 * szH g * szH h := by grind
    have e3 : g.2.2 * szH h * szH x = g.2.2 * szH x * szH h := by grind
    omega
  exact Int.lt_of_mul_lt_mul_right this (Int.le_of_lt p1)

theorem nat_dvd_of {s t a b c a' b' c' : Nat} (h : Nat.gcd (Nat.gcd a b) c = 1) (h1 : s * a' = t * a) (h2 : s * b' = t * b) (h3 : s * c' = t * c) : s ∣ t := by
  have d1 : s ∣ t * a := ⟨a', h1.symm⟩
  have d2 : s ∣ t * b := ⟨b', h2.symm⟩
  have d3 : s ∣ t * c := ⟨c', h3.symm⟩
  have := Nat.dvd_gcd (Nat.dvd_gcd d1 d2) d3
  rw [Nat.gcd_mul_left, Nat.gcd_mul_left, h, Nat.mul_one] at this
  exact this

/-- Half planes of one direction whose borders are as far from the origin are the same. -/
theorem tie_eq {g h : Hp} (hg : primH g) (hh : primH h) (hs : sdH g h = true) (hc : h.2.2 * szH g = g.2.2 * szH h) : g = h := by
  obtain ⟨s1, s2⟩ := sd_scale hh.1 hg.1 hs
  have p1 := szH_pos hg.1
  have p2 := szH_pos hh.1
  have n1 : (szH h).toNat * g.1.natAbs = (szH g).toNat * h.1.natAbs := by
    have := congrArg Int.natAbs s1
    rw [Int.natAbs_mul, Int.natAbs_mul] at this
    rw [show (szH h).toNat = (szH h).natAbs by omega, show (szH g).toNat = (szH g).natAbs by omega]; exact this
  have n2 : (szH h).toNat * g.2.1.natAbs = (szH g).toNat * h.2.1.natAbs := by
    have := congrArg Int.natAbs s2
    rw [Int.natAbs_mul, Int.natAbs_mul] at this
    rw [show (szH h).toNat = (szH h).natAbs by omega, show (szH g).toNat = (szH g).natAbs by omega]; exact this
  have n3 : (szH h).toNat * g.2.2.natAbs = (szH g).toNat * h.2.2.natAbs := by
    have := congrArg Int.natAbs hc
    rw [Int.natAbs_mul, Int.natAbs_mul] at this
    rw [show (szH h).toNat = (szH h).natAbs by omega, show (szH g).toNat = (szH g).natAbs by omega, Nat.mul_comm, ← this, Nat.mul_comm]
  have d1 := nat_dvd_of hh.2 n1 n2 n3
  have d2 := nat_dvd_of hg.2 n1.symm n2.symm n3.symm
  have e : szH h = szH g := by
    have := Nat.dvd_antisymm d1 d2
    omega
  rw [e] at s1 s2 hc
  have q1 := Int.eq_of_mul_eq_mul_left (show szH g ≠ 0 by omega) s1
  have q2 := Int.eq_of_mul_eq_mul_left (show szH g ≠ 0 by omega) s2
  have q3 := Int.eq_of_mul_eq_mul_right (show szH g ≠ 0 by omega) hc
  exact Prod.ext q1 (Prod.ext q2 q3.symm)

theorem lt_asymm' {g h : Hp} (h1 : ltH g h) (h2 : ltH h g) : False := by unfold ltH at *; omega

theorem tgH_comm {g h : Hp} (hg : primH g) (hh : primH h) (hs : sdH g h = true) : tgH g h = tgH h g := by
  unfold tgH
  by_cases h1 : ltH h g
  · rw [if_pos h1, if_neg (fun h2 => lt_asymm' h1 h2)]
  · rw [if_neg h1]
    by_cases h2 : ltH g h
    · rw [if_pos h2]
    · rw [if_neg h2]
      exact tie_eq hg hh hs (by unfold ltH at *; omega)

theorem tgH_comm3 {x g h : Hp} (hx : primH x) (hg : primH g) (hh : primH h) (h1 : sdH x g = true) (h2 : sdH x h = true) : tgH (tgH x g) h = tgH (tgH x h) g := by
  have h3 : sdH g h = true := by rw [← (bef_congr (k := h) hx.1 hg.1 h1).2.2.1]; exact h2
  by_cases p : ltH g x <;> by_cases q : ltH h x
  · rw [show tgH x g = g by unfold tgH; rw [if_pos p], show tgH x h = h by unfold tgH; rw [if_pos q]]
    exact tgH_comm hg hh h3
  · rw [show tgH x g = g by unfold tgH; rw [if_pos p], show tgH x h = x by unfold tgH; rw [if_neg q]]
    unfold tgH
    rw [if_pos p, if_neg (fun r => q (lt_trans' hg.1 hh.1 hx.1 r p))]
  · rw [show tgH x g = x by unfold tgH; rw [if_neg p], show tgH x h = h by unfold tgH; rw [if_pos q]]
    unfold tgH
    rw [if_neg (fun r => p (lt_trans' hh.1 hg.1 hx.1 r q))]
  · rw [show tgH x g = x by unfold tgH; rw [if_neg p], show tgH x h = x by unfold tgH; rw [if_neg q]]
    unfold tgH; rw [if_neg p]

theorem tgH_or (x g : Hp) : tgH x g = x ∨ tgH x g = g := by unfold tgH; split <;> simp

/-- Insertion into a list that is sorted by angle: of one direction only the tightest half plane stays. -/
def insH : List Hp → Hp → List Hp
  | [], h => [h]
  | g :: l, h => if befH g h then g :: insH l h else if sdH g h then tgH g h :: l else h :: g :: l

theorem tg_congr {x g k : Hp} (hx : primH x) (hg : primH g) (h : sdH x g = true) : befH (tgH x g) k = befH x k ∧ befH k (tgH x g) = befH k x ∧ sdH (tgH x g) k = sdH x k ∧ sdH k (tgH x g) = sdH k x := by
  rcases tgH_or x g with e | e <;> rw [e]
  · exact ⟨rfl, rfl, rfl, rfl⟩
  · obtain ⟨a, b, c, d⟩ := bef_congr (k := k) hx.1 hg.1 h
    exact ⟨a.symm, b.symm, c.symm, d.symm⟩

theorem insH_comm (l : List Hp) (g h : Hp) (hl : ∀ x ∈ l, primH x) (hg : primH g) (hh : primH h) : insH (insH l g) h = insH (insH l h) g := by
  induction l with
  | nil =>
    rcases tri g h with ⟨a, b, c, d⟩ | ⟨a, b, c, d⟩ | ⟨a, b, c, d⟩
    · simp [insH, a, b, c, d]
    · simp [insH, a, b, c, d, tgH_comm hg hh b]
    · simp [insH, a, b, c, d]
  | cons x l ih =>
    have hx := hl x (by simp)
    have ih := ih (fun y hy => hl y (by simp [hy]))
    rcases tri x g with ⟨a, b, c, d⟩ | ⟨a, b, c, d⟩ | ⟨a, b, c, d⟩ <;> rcases tri x h with ⟨a', b', c', d'⟩ | ⟨a', b', c', d'⟩ | ⟨a', b', c', d'⟩
    · simp [insH, a, a', ih]
    · obtain ⟨t1, t2, t3, t4⟩ := tg_congr (k := g) hx hh b'
      simp [insH, a, a', b', t1, t3]
    · have := bef_trans hh.1 hx.1 hg.1 c' a
      simp [insH, a, a', b', this]
    · obtain ⟨t1, t2, t3, t4⟩ := tg_congr (k := h) hx hg b
      simp [insH, a, b, a', t1]
    · obtain ⟨t1, t2, t3, t4⟩ := tg_congr (k := h) hx hg b
      obtain ⟨u1, u2, u3, u4⟩ := tg_congr (k := g) hx hh b'
      simp [insH, a, b, a', b', t1, t3, u1, u3, tgH_comm3 hx hg hh b b']
    · obtain ⟨t1, t2, t3, t4⟩ := tg_congr (k := h) hx hg b
      have e : befH h g = true := by rw [← (bef_congr (k := h) hx.1 hg.1 b).2.1]; exact c'
      simp [insH, a, b, a', b', t1, t3, e]
    · have := bef_trans hg.1 hx.1 hh.1 c a'
      simp [insH, a, b, a', this]
    · obtain ⟨t1, t2, t3, t4⟩ := tg_congr (k := g) hx hh b'
      have e : befH g h = true := by rw [← (bef_congr (k := g) hx.1 hh.1 b').2.1]; exact c
      simp [insH, a, b, a', b', t1, t3, e]
    · rcases tri g h with ⟨e1, e2, e3, e4⟩ | ⟨e1, e2, e3, e4⟩ | ⟨e1, e2, e3, e4⟩
      · simp [insH, a, b, a', b', e1, e2, e3, e4]
      · simp [insH, a, b, a', b', e1, e2, e3, e4, tgH_comm hg hh e2]
      · simp [insH, a, b, a', b', e1, e2, e3, e4]

theorem insH_mem {l : List Hp} {g x : Hp} (h : x ∈ insH l g) : x ∈ l ∨ x = g := by
  induction l with
  | nil => simpa [insH] using h
  | cons y l ih =>
    unfold insH at h
    split at h
    · rcases List.mem_cons.1 h with h | h
      · exact .inl (by simp [h])
      · rcases ih h with h | h
        · exact .inl (by simp [h])
        · exact .inr h
    · split at h
      · rcases List.mem_cons.1 h with h | h
        · rcases tgH_or y g with e | e <;> rw [e] at h <;> simp [h]
        · exact .inl (by simp [h])
      · rcases List.mem_cons.1 h with h | h
        · exact .inr h
        · exact .inl h

theorem foldl_ins_mem (xs : List Hp) : ∀ {l : List Hp} {x : Hp}, x ∈ xs.foldl insH l → x ∈ l ∨ x ∈ xs := by
  induction xs with
  | nil => intro l x h; exact .inl h
  | cons g xs ih =>
    intro l x h
    rcases ih h with h | h
    · rcases insH_mem h with h | h
      · exact .inl h
      · exact .inr (by simp [h])
    · exact .inr (by simp [h])

theorem insH_prim {l : List Hp} {g : Hp} (hl : ∀ x ∈ l, primH x) (hg : primH g) : ∀ x ∈ insH l g, primH x := by
  intro x hx
  rcases insH_mem hx with h | h
  · exact hl x h
  · rw [h]; exact hg

theorem foldl_ins_comm (xs : List Hp) (hxs : ∀ x ∈ xs, primH x) : ∀ (l : List Hp) (g : Hp), (∀ x ∈ l, primH x) → primH g → xs.foldl insH (insH l g) = insH (xs.foldl insH l) g := by
  induction xs with
  | nil => intro l g _ _; rfl
  | cons x xs ih =>
    intro l g hl hg
    have hx := hxs x (by simp)
    rw [List.foldl_cons, List.foldl_cons, insH_comm l g x hl hg hx]
    exact ih (fun y hy => hxs y (by simp [hy])) _ _ (insH_prim hl hx) hg

theorem foldl_ins_swap (ys : List Hp) : ∀ (xs : List Hp) (_ : ∀ x ∈ xs, primH x) (_ : ∀ x ∈ ys, primH x) (l : List Hp), (∀ x ∈ l, primH x) → xs.foldl insH (ys.foldl insH l) = ys.foldl insH (xs.foldl insH l) := by
  induction ys with
  | nil => intro xs _ _ l _; rfl
  | cons y ys ih =>
    intro xs hxs hys l hl
    have hy := hys y (by simp)
    rw [List.foldl_cons, List.foldl_cons, ih xs hxs (fun z hz => hys z (by simp [hz])) _ (insH_prim hl hy), foldl_ins_comm xs hxs l y hl hy]

/-- The half planes in the order of their angles, of each direction the tightest; the order in which they came does not matter. -/
def sortH (xs : List Hp) : List Hp := xs.foldl insH []

theorem sortH_swap (xs ys : List Hp) (hx : ∀ x ∈ xs, primH x) (hy : ∀ x ∈ ys, primH x) : sortH (xs ++ ys) = sortH (ys ++ xs) := by
  unfold sortH
  rw [List.foldl_append, List.foldl_append]
  exact (foldl_ins_swap ys xs hx hy [] (by simp)).symm ▸ rfl

end Go.Proofs.Ythdaoadleeelnaa
