/- Plane geometry of half planes with integer coefficients, without a program: order by angle, insertion into a sorted list. Plane geometry of half planes with integer coefficients, without a program: edges of a region, by intervals on a border and by crossings. -/
namespace Go.Proofs.Ythdaoadleeelnaa
set_option linter.unusedSimpArgs false
set_option linter.unusedVariables false


/-- A half plane: its two coefficients and its top. -/
abbrev Hp := Int × Int × Int

def crH (g h : Hp) : Int := g.1 * h.2.1 - g.2.1 * h.1

def upH (h : Hp) : Bool := decide (0 < h.2.1) || (h.2.1 == 0 && decide (0 < h.1))

def befH (g h : Hp) : Bool := if upH g != upH h then upH g else decide (0 < crH g h)

def sdH (g h : Hp) : Bool := crH g h == 0 && upH g == upH h

def szH (h : Hp) : Int := if h.1 = 0 then (h.2.1.natAbs : Int) else (h.1.natAbs : Int)

def ltH (h g : Hp) : Prop := h.2.2 * szH g < g.2.2 * szH h
instance (h g : Hp) : Decidable (ltH h g) := by unfold ltH; infer_instance

def tgH (g h : Hp) : Hp := if ltH h g then h else g

def dirH (h : Hp) : Prop := ¬ (h.1 = 0 ∧ h.2.1 = 0)

def primH (h : Hp) : Prop := dirH h ∧ Nat.gcd (Nat.gcd h.1.natAbs h.2.1.natAbs) h.2.2.natAbs = 1

theorem crH_neg (g h : Hp) : crH h g = -crH g h := by unfold crH; grind

theorem upH_true {h : Hp} : upH h = true ↔ (0 < h.2.1 ∨ (h.2.1 = 0 ∧ 0 < h.1)) := by unfold upH; simp

theorem upH_false {h : Hp} : upH h = false ↔ (h.2.1 < 0 ∨ (h.2.1 = 0 ∧ h.1 ≤ 0)) := by
  rw [← Bool.not_eq_true, upH_true]; omega

/-- Of two directions exactly one comes first, or they are the same. -/
theorem tri (g h : Hp) : (befH g h = true ∧ sdH g h = false ∧ befH h g = false ∧ sdH h g = false) ∨ (befH g h = false ∧ sdH g h = true ∧ befH h g = false ∧ sdH h g = true) ∨ (befH g h = false ∧ sdH g h = false ∧ befH h g = true ∧ sdH h g = false) := by
  unfold befH sdH
  rw [crH_neg g h]
  cases hg : upH g <;> cases hh : upH h <;> simp <;> omega

theorem szH_pos {h : Hp} (hd : dirH h) : 0 < szH h := by
  unfold szH dirH at *
  split <;> omega

theorem sd_scale {g x : Hp} (hg : dirH g) (hx : dirH x) (h : sdH x g = true) : szH g * x.1 = szH x * g.1 ∧ szH g * x.2.1 = szH x * g.2.1 := by
  obtain ⟨a, b, c⟩ := x
  obtain ⟨a', b', c'⟩ := g
  unfold sdH crH at h
  simp only [Bool.and_eq_true, beq_iff_eq] at h
  obtain ⟨h1, h2⟩ := h
  unfold dirH at hg hx
  unfold szH
  simp only at *
  have hup : (0 < b ∨ (b = 0 ∧ 0 < a)) ↔ (0 < b' ∨ (b' = 0 ∧ 0 < a')) := by
    rw [← @upH_true (a, b, c), ← @upH_true (a', b', c'), h2]
  by_cases ha : a = 0
  · subst ha
    have hb : b ≠ 0 := by omega
    have ha' : a' = 0 := by
      have : b * a' = 0 := by omega
      rcases Int.mul_eq_zero.1 this with h | h
      · exact absurd h hb
      · exact h
    subst ha'
    simp only [if_true]
    refine ⟨by omega, ?_⟩
    rcases Int.lt_or_gt_of_ne hb with h | h
    · have h' : b' < 0 := by omega
      rw [show (b'.natAbs : Int) = -b' by omega, show (b.natAbs : Int) = -b by omega]; grind
    · have h' : 0 < b' := by omega
      rw [show (b'.natAbs : Int) = b' by omega, show (b.natAbs : Int) = b by omega]; grind
  · have ha' : a' ≠ 0 := by
      intro h
      subst h
      have : a * b' = 0 := by omega
      rcases Int.mul_eq_zero.1 this with h | h
      · exact ha h
      · subst h; omega
    rw [if_neg ha', if_neg ha]
    have hs : (0 < a ↔ 0 < a') := by
      rcases Int.lt_trichotomy b 0 with h | h | h
      · have hb' : b' < 0 := by
          rcases Int.lt_trichotomy b' 0 with h' | h' | h'
          · exact h'
          · subst h'
            have : b * a' = 0 := by omega
            rcases Int.mul_eq_zero.1 this with h | h <;> omega
          · omega
        constructor
        · intro h3
          have h4 := Int.mul_neg_of_pos_of_neg h3 hb'
          rcases Int.lt_or_gt_of_ne ha' with h5 | h5
          · have := Int.mul_pos_of_neg_of_neg h h5; omega
          · exact h5
        · intro h3
          have h4 := Int.mul_neg_of_neg_of_pos h h3
          rcases Int.lt_or_gt_of_ne ha with h5 | h5
          · have := Int.mul_pos_of_neg_of_neg h5 hb'; omega
          · exact h5
      · subst h
        have hb' : b' = 0 := by
          have : a * b' = 0 := by omega
          rcases Int.mul_eq_zero.1 this with h | h
          · exact absurd h ha
          · exact h
        subst hb'
        omega
      · have hb' : 0 < b' := by
          rcases Int.lt_trichotomy b' 0 with h' | h' | h'
          · omega
          · subst h'
            have : b * a' = 0 := by omega
            rcases Int.mul_eq_zero.1 this with h | h <;> omega
          · exact h'
        constructor
        · intro h3
          have h4 := Int.mul_pos h3 hb'
          rcases Int.lt_or_gt_of_ne ha' with h5 | h5
          · have := Int.mul_neg_of_pos_of_neg h h5; omega
          · exact h5
        · intro h3
          have h4 := Int.mul_pos h h3
          rcases Int.lt_or_gt_of_ne ha with h5 | h5
          · have := Int.mul_neg_of_neg_of_pos h5 hb'; omega
          · exact h5
    by_cases hp : 0 < a
    · have hp' := hs.1 hp
      rw [show (a'.natAbs : Int) = a' by omega, show (a.natAbs : Int) = a by omega]
      exact ⟨by grind, by grind⟩
    · have hp' : ¬ 0 < a' := fun h => hp (hs.2 h)
      rw [show (a'.natAbs : Int) = -a' by omega, show (a.natAbs : Int) = -a by omega]
      exact ⟨by grind, by grind⟩

theorem op_scale {g x : Hp} (hg : dirH g) (hx : dirH x) (h0 : crH x g = 0) (h : sdH x g = false) : szH g * x.1 = -(szH x * g.1) ∧ szH g * x.2.1 = -(szH x * g.2.1) := by
  have hn : dirH (-g.1, -g.2.1, g.2.2) := by unfold dirH at *; simp only at *; omega
  have hs : sdH x (-g.1, -g.2.1, g.2.2) = true := by
    have hu : upH x ≠ upH g := by
      intro he; unfold sdH at h; rw [h0, he] at h; simp at h
    have hu' : upH (-g.1, -g.2.1, g.2.2) = !upH g := by
      cases hc : upH g
      · rw [upH_false] at hc
        rw [Bool.not_false, upH_true]
        unfold dirH at hg
        simp only
        omega
      · rw [upH_true] at hc
        rw [Bool.not_true, upH_false]
        simp only
        omega
    unfold sdH
    rw [hu']
    have : crH x (-g.1, -g.2.1, g.2.2) = 0 := by
      unfold crH at *
      simp only
      grind
    rw [this]
    cases hc : upH x <;> cases hc' : upH g <;> simp_all
  have hz : szH (-g.1, -g.2.1, g.2.2) = szH g := by
    unfold szH; simp only
    split <;> split <;> omega
  have := sd_scale hn hx hs
  rw [hz] at this
  simp only at this
  refine ⟨this.1.trans (by grind), this.2.trans (by grind)⟩

theorem pos_of_pos_mul {a b : Int} (ha : 0 < a) (h : 0 < a * b) : 0 < b := by
  rcases Int.lt_trichotomy b 0 with hb | hb | hb
  · have := Int.mul_neg_of_pos_of_neg ha hb; omega
  · subst hb; omega
  · exact hb

theorem pos_of_mul {s t u v : Int} (hs : 0 < s) (hu : 0 < u) (h : s * t = u * v) : 0 < t ↔ 0 < v := by
  constructor
  · intro ht
    have := Int.mul_pos hs ht
    rw [h] at this
    exact pos_of_pos_mul hu this
  · intro hv
    have := Int.mul_pos hu hv
    rw [← h] at this
    exact pos_of_pos_mul hs this

theorem bef_congr {x g k : Hp} (hx : dirH x) (hg : dirH g) (h : sdH x g = true) : befH x k = befH g k ∧ befH k x = befH k g ∧ sdH x k = sdH g k ∧ sdH k x = sdH k g := by
  obtain ⟨s1, s2⟩ := sd_scale hg hx h
  have p1 := szH_pos hg
  have p2 := szH_pos hx
  have hu : upH x = upH g := by
    unfold sdH at h; simp only [Bool.and_eq_true, beq_iff_eq] at h; exact h.2
  have e : szH g * crH x k = szH x * crH g k := by unfold crH; grind
  have e' : szH g * crH k x = szH x * crH k g := by unfold crH; grind
  have z : crH x k = 0 ↔ crH g k = 0 := by
    constructor
    · intro h; rw [h] at e
      rcases Int.mul_eq_zero.1 (show szH x * crH g k = 0 by omega) with h | h
      · omega
      · exact h
    · intro h; rw [h] at e
      rcases Int.mul_eq_zero.1 (show szH g * crH x k = 0 by omega) with h | h
      · omega
      · exact h
  have z' : crH k x = 0 ↔ crH k g = 0 := by
    rw [crH_neg x k, crH_neg g k]; omega
  have q : decide (0 < crH x k) = decide (0 < crH g k) := decide_eq_decide.2 (pos_of_mul p1 p2 e)
  have q' : decide (0 < crH k x) = decide (0 < crH k g) := decide_eq_decide.2 (pos_of_mul p1 p2 e')
  have y : (crH x k == 0) = (crH g k == 0) := by rw [Bool.eq_iff_iff, beq_iff_eq, beq_iff_eq]; exact z
  have y' : (crH k x == 0) = (crH k g == 0) := by rw [Bool.eq_iff_iff, beq_iff_eq, beq_iff_eq]; exact z'
  unfold befH sdH
  rw [hu, q, q', y, y']
  exact ⟨rfl, rfl, rfl, rfl⟩

theorem bef_trans {g h k : Hp} (hg : dirH g) (hh : dirH h) (hk : dirH k) (h1 : befH g h = true) (h2 : befH h k = true) : befH g k = true := by
  have key : upH g = upH h → upH h = upH k → 0 < crH g h → 0 < crH h k → 0 < crH g k := by
    intro u1 u2 c1 c2
    have i1 : crH g k * h.2.1 = crH g h * k.2.1 + crH h k * g.2.1 := by unfold crH; grind
    have i2 : crH g k * h.1 = crH g h * k.1 + crH h k * g.1 := by unfold crH; grind
    unfold dirH at hg hh hk
    cases ug : upH g
    · have e1 := upH_false.1 ug
      have e2 := upH_false.1 (u1 ▸ ug)
      have e3 := upH_false.1 (u2 ▸ u1 ▸ ug)
      have t : 0 < crH g k ∨ crH g k ≤ 0 := by omega
      rcases t with t | t
      · exact t
      · exfalso
        rcases (show h.2.1 < 0 ∨ 0 ≤ h.2.1 by omega) with hb | hb
        · have m := Int.mul_nonneg_of_nonpos_of_nonpos t (Int.le_of_lt hb)
          have m1 : crH g h * k.2.1 ≤ 0 := Int.mul_nonpos_of_nonneg_of_nonpos (Int.le_of_lt c1) (by omega)
          have m2 : crH h k * g.2.1 ≤ 0 := Int.mul_nonpos_of_nonneg_of_nonpos (Int.le_of_lt c2) (by omega)
          have z1 : crH g h * k.2.1 = 0 := by omega
          have z2 : crH h k * g.2.1 = 0 := by omega
          have z1' : k.2.1 = 0 := by rcases Int.mul_eq_zero.1 z1 with h | h <;> omega
          have z2' : g.2.1 = 0 := by rcases Int.mul_eq_zero.1 z2 with h | h <;> omega
          have f1 : crH g h = g.1 * h.2.1 := by unfold crH; rw [z2']; omega
          have f2 : crH h k = -(h.2.1 * k.1) := by unfold crH; rw [z1']; omega
          have := Int.mul_nonneg_of_nonpos_of_nonpos (show h.2.1 ≤ 0 by omega) (show k.1 ≤ 0 by omega)
          omega
        · have hb0 : h.2.1 = 0 := by omega
          have f1 : crH g h = -(g.2.1 * h.1) := by unfold crH; rw [hb0]; omega
          have := Int.mul_nonneg_of_nonpos_of_nonpos (show g.2.1 ≤ 0 by omega) (show h.1 ≤ 0 by omega)
          omega
    · have e1 := upH_true.1 ug
      have e2 := upH_true.1 (u1 ▸ ug)
      have e3 := upH_true.1 (u2 ▸ u1 ▸ ug)
      have t : 0 < crH g k ∨ crH g k ≤ 0 := by omega
      rcases t with t | t
      · exact t
      · exfalso
        rcases (show 0 < h.2.1 ∨ h.2.1 ≤ 0 by omega) with hb | hb
        · have m := Int.mul_nonpos_of_nonpos_of_nonneg t (Int.le_of_lt hb)
          have m1 := Int.mul_nonneg (Int.le_of_lt c1) (show 0 ≤ k.2.1 by omega)
          have m2 := Int.mul_nonneg (Int.le_of_lt c2) (show 0 ≤ g.2.1 by omega)
          have z1 : crH g h * k.2.1 = 0 := by omega
          have z2 : crH h k * g.2.1 = 0 := by omega
          have z1' : k.2.1 = 0 := by rcases Int.mul_eq_zero.1 z1 with h | h <;> omega
          have z2' : g.2.1 = 0 := by rcases Int.mul_eq_zero.1 z2 with h | h <;> omega
          have f2 : crH h k = -(h.2.1 * k.1) := by unfold crH; rw [z1']; omega
          have := Int.mul_nonneg (show 0 ≤ h.2.1 by omega) (show 0 ≤ k.1 by omega)
          omega
        · have hb0 : h.2.1 = 0 := by omega
          have f1 : crH g h = -(g.2.1 * h.1) := by unfold crH; rw [hb0]; omega
          have := Int.mul_nonneg (show 0 ≤ g.2.1 by omega) (show 0 ≤ h.1 by omega)
          omega
  unfold befH at *
  cases ug : upH g <;> cases uh : upH h <;> cases uk : upH k <;> simp_all

theorem lt_trans' {h g x : Hp} (hg : dirH g) (hh : dirH h) (hx : dirH x) (h1 : ltH h g) (h2 : ltH g x) : ltH h x := by
  unfold ltH at *
  have p1 := szH_pos hg
  have p2 := szH_pos hh
  have p3 := szH_pos hx
  have a1 := Int.mul_lt_mul_of_pos_right h1 p3
  have a2 := Int.mul_lt_mul_of_pos_right h2 p2
  have : h.2.2 * szH x * szH g < x.2.2 * szH h * szH g := by
    have e1 : h.2.2 * szH x * szH g = h.2.2 * szH g * szH x := by grind
    have e2 : x.2.2 * szH h * szH g = x.2.2 * szH g * szH h := by grind
    have e3 : g.2.2 * szH h * szH x = g.2.2 * szH x * szH h := by grind
    omega
  exact Int.lt_of_mul_lt_mul_right this (Int.le_of_lt p1)

theorem nat_dvd_of {s t a b c a' b' c' : Nat} (h : Nat.gcd (Nat.gcd a b) c = 1) (h1 : s * a' = t * a) (h2 : s * b' = t * b) (h3 : s * c' = t * c) : s ∣ t := by
  have d1 : s ∣ t * a := ⟨a', h1.symm⟩
  have d2 : s ∣ t * b := ⟨b', h2.symm⟩
  have d3 : s ∣ t * c := ⟨c', h3.symm⟩
  have := Nat.dvd_gcd (Nat.dvd_gcd d1 d2) d3
  rw [Nat.gcd_mul_left, Nat.gcd_mul_left, h, Nat.mul_one] at this
  exact this

/-- Half planes of one direction whose borders are as far from the origin are the same. -/
theorem tie_eq {g h : Hp} (hg : primH g) (hh : primH h) (hs : sdH g h = true) (hc : h.2.2 * szH g = g.2.2 * szH h) : g = h := by
  obtain ⟨s1, s2⟩ := sd_scale hh.1 hg.1 hs
  have p1 := szH_pos hg.1
  have p2 := szH_pos hh.1
  have n1 : (szH h).toNat * g.1.natAbs = (szH g).toNat * h.1.natAbs := by
    have := congrArg Int.natAbs s1
    rw [Int.natAbs_mul, Int.natAbs_mul] at this
    rw [show (szH h).toNat = (szH h).natAbs by omega, show (szH g).toNat = (szH g).natAbs by omega]; exact this
  have n2 : (szH h).toNat * g.2.1.natAbs = (szH g).toNat * h.2.1.natAbs := by
    have := congrArg Int.natAbs s2
    rw [Int.natAbs_mul, Int.natAbs_mul] at this
    rw [show (szH h).toNat = (szH h).natAbs by omega, show (szH g).toNat = (szH g).natAbs by omega]; exact this
  have n3 : (szH h).toNat * g.2.2.natAbs = (szH g).toNat * h.2.2.natAbs := by
    have := congrArg Int.natAbs hc
    rw [Int.natAbs_mul, Int.natAbs_mul] at this
    rw [show (szH h).toNat = (szH h).natAbs by omega, show (szH g).toNat = (szH g).natAbs by omega, Nat.mul_comm, ← this, Nat.mul_comm]
  have d1 := nat_dvd_of hh.2 n1 n2 n3
  have d2 := nat_dvd_of hg.2 n1.symm n2.symm n3.symm
  have e : szH h = szH g := by
    have := Nat.dvd_antisymm d1 d2
    omega
  rw [e] at s1 s2 hc
  have q1 := Int.eq_of_mul_eq_mul_left (show szH g ≠ 0 by omega) s1
  have q2 := Int.eq_of_mul_eq_mul_left (show szH g ≠ 0 by omega) s2
  have q3 := Int.eq_of_mul_eq_mul_right (show szH g ≠ 0 by omega) hc
  exact Prod.ext q1 (Prod.ext q2 q3.symm)

theorem lt_asymm' {g h : Hp} (h1 : ltH g h) (h2 : ltH h g) : False := by unfold ltH at *; omega

theorem tgH_comm {g h : Hp} (hg : primH g) (hh : primH h) (hs : sdH g h = true) : tgH g h = tgH h g := by
  unfold tgH
  by_cases h1 : ltH h g
  · rw [if_pos h1, if_neg (fun h2 => lt_asymm' h1 h2)]
  · rw [if_neg h1]
    by_cases h2 : ltH g h
    · rw [if_pos h2]
    · rw [if_neg h2]
      exact tie_eq hg hh hs (by unfold ltH at *; omega)

theorem tgH_comm3 {x g h : Hp} (hx : primH x) (hg : primH g) (hh : primH h) (h1 : sdH x g = true) (h2 : sdH x h = true) : tgH (tgH x g) h = tgH (tgH x h) g := by
  have h3 : sdH g h = true := by rw [← (bef_congr (k := h) hx.1 hg.1 h1).2.2.1]; exact h2
  by_cases p : ltH g x <;> by_cases q : ltH h x
  · rw [show tgH x g = g by unfold tgH; rw [if_pos p], show tgH x h = h by unfold tgH; rw [if_pos q]]
    exact tgH_comm hg hh h3
  · rw [show tgH x g = g by unfold tgH; rw [if_pos p], show tgH x h = x by unfold tgH; rw [if_neg q]]
    unfold tgH
    rw [if_pos p, if_neg (fun r => q (lt_trans' hg.1 hh.1 hx.1 r p))]
  · rw [show tgH x g = x by unfold tgH; rw [if_neg p], show tgH x h = h by unfold tgH; rw [if_pos q]]
    unfold tgH
    rw [if_neg (fun r => p (lt_trans' hh.1 hg.1 hx.1 r q))]
  · rw [show tgH x g = x by unfold tgH; rw [if_neg p], show tgH x h = x by unfold tgH; rw [if_neg q]]
    unfold tgH; rw [if_neg p]

theorem tgH_or (x g : Hp) : tgH x g = x ∨ tgH x g = g := by unfold tgH; split <;> simp

/-- Insertion into a list that is sorted by angle: of one direction only the tightest half plane stays. -/
def insH : List Hp → Hp → List Hp
  | [], h => [h]
  | g :: l, h => if befH g h then g :: insH l h else if sdH g h then tgH g h :: l else h :: g :: l

theorem tg_congr {x g k : Hp} (hx : primH x) (hg : primH g) (h : sdH x g = true) : befH (tgH x g) k = befH x k ∧ befH k (tgH x g) = befH k x ∧ sdH (tgH x g) k = sdH x k ∧ sdH k (tgH x g) = sdH k x := by
  rcases tgH_or x g with e | e <;> rw [e]
  · exact ⟨rfl, rfl, rfl, rfl⟩
  · obtain ⟨a, b, c, d⟩ := bef_congr (k := k) hx.1 hg.1 h
    exact ⟨a.symm, b.symm, c.symm, d.symm⟩

theorem insH_comm (l : List Hp) (g h : Hp) (hl : ∀ x ∈ l, primH x) (hg : primH g) (hh : primH h) : insH (insH l g) h = insH (insH l h) g := by
  induction l with
  | nil =>
    rcases tri g h with ⟨a, b, c, d⟩ | ⟨a, b, c, d⟩ | ⟨a, b, c, d⟩
    · simp [insH, a, b, c, d]
    · simp [insH, a, b, c, d, tgH_comm hg hh b]
    · simp [insH, a, b, c, d]
  | cons x l ih =>
    have hx := hl x (by simp)
    have ih := ih (fun y hy => hl y (by simp [hy]))
    rcases tri x g with ⟨a, b, c, d⟩ | ⟨a, b, c, d⟩ | ⟨a, b, c, d⟩ <;> rcases tri x h with ⟨a', b', c', d'⟩ | ⟨a', b', c', d'⟩ | ⟨a', b', c', d'⟩
    · simp [insH, a, a', ih]
    · obtain ⟨t1, t2, t3, t4⟩ := tg_congr (k := g) hx hh b'
      simp [insH, a, a', b', t1, t3]
    · have := bef_trans hh.1 hx.1 hg.1 c' a
      simp [insH, a, a', b', this]
    · obtain ⟨t1, t2, t3, t4⟩ := tg_congr (k := h) hx hg b
      simp [insH, a, b, a', t1]
    · obtain ⟨t1, t2, t3, t4⟩ := tg_congr (k := h) hx hg b
      obtain ⟨u1, u2, u3, u4⟩ := tg_congr (k := g) hx hh b'
      simp [insH, a, b, a', b', t1, t3, u1, u3, tgH_comm3 hx hg hh b b']
    · obtain ⟨t1, t2, t3, t4⟩ := tg_congr (k := h) hx hg b
      have e : befH h g = true := by rw [← (bef_congr (k := h) hx.1 hg.1 b).2.1]; exact c'
      simp [insH, a, b, a', b', t1, t3, e]
    · have := bef_trans hg.1 hx.1 hh.1 c a'
      simp [insH, a, b, a', this]
    · obtain ⟨t1, t2, t3, t4⟩ := tg_congr (k := g) hx hh b'
      have e : befH g h = true := by rw [← (bef_congr (k := g) hx.1 hh.1 b').2.1]; exact c
      simp [insH, a, b, a', b', t1, t3, e]
    · rcases tri g h with ⟨e1, e2, e3, e4⟩ | ⟨e1, e2, e3, e4⟩ | ⟨e1, e2, e3, e4⟩
      · simp [insH, a, b, a', b', e1, e2, e3, e4]
      · simp [insH, a, b, a', b', e1, e2, e3, e4, tgH_comm hg hh e2]
      · simp [insH, a, b, a', b', e1, e2, e3, e4]

theorem insH_mem {l : List Hp} {g x : Hp} (h : x ∈ insH l g) : x ∈ l ∨ x = g := by
  induction l with
  | nil => simpa [insH] using h
  | cons y l ih =>
    unfold insH at h
    split at h
    · rcases List.mem_cons.1 h with h | h
      · exact .inl (by simp [h])
      · rcases ih h with h | h
        · exact .inl (by simp [h])
        · exact .inr h
    · split at h
      · rcases List.mem_cons.1 h with h | h
        · rcases tgH_or y g with e | e <;> rw [e] at h <;> simp [h]
        · exact .inl (by simp [h])
      · rcases List.mem_cons.1 h with h | h
        · exact .inr h
        · exact .inl h

theorem foldl_ins_mem (xs : List Hp) : ∀ {l : List Hp} {x : Hp}, x ∈ xs.foldl insH l → x ∈ l ∨ x ∈ xs := by
  induction xs with
  | nil => intro l x h; exact .inl h
  | cons g xs ih =>
    intro l x h
    rcases ih h with h | h
    · rcases insH_mem h with h | h
      · exact .inl h
      · exact .inr (by simp [h])
    · exact .inr (by simp [h])

theorem insH_prim {l : List Hp} {g : Hp} (hl : ∀ x ∈ l, primH x) (hg : primH g) : ∀ x ∈ insH l g, primH x := by
  intro x hx
  rcases insH_mem hx with h | h
  · exact hl x h
  · rw [h]; exact hg

theorem foldl_ins_comm (xs : List Hp) (hxs : ∀ x ∈ xs, primH x) : ∀ (l : List Hp) (g : Hp), (∀ x ∈ l, primH x) → primH g → xs.foldl insH (insH l g) = insH (xs.foldl insH l) g := by
  induction xs with
  | nil => intro l g _ _; rfl
  | cons x xs ih =>
    intro l g hl hg
    have hx := hxs x (by simp)
    rw [List.foldl_cons, List.foldl_cons, insH_comm l g x hl hg hx]
    exact ih (fun y hy => hxs y (by simp [hy])) _ _ (insH_prim hl hx) hg

theorem foldl_ins_swap (ys : List Hp) : ∀ (xs : List Hp) (_ : ∀ x ∈ xs, primH x) (_ : ∀ x ∈ ys, primH x) (l : List Hp), (∀ x ∈ l, primH x) → xs.foldl insH (ys.foldl insH l) = ys.foldl insH (xs.foldl insH l) := by
  induction ys with
  | nil => intro xs _ _ l _; rfl
  | cons y ys ih =>
    intro xs hxs hys l hl
    have hy := hys y (by simp)
    rw [List.foldl_cons, List.foldl_cons, ih xs hxs (fun z hz => hys z (by simp [hz])) _ (insH_prim hl hy), foldl_ins_comm xs hxs l y hl hy]

/-- The half planes in the order of their angles, of each direction the tightest; the order in which they came does not matter. -/
def sortH (xs : List Hp) : List Hp := xs.foldl insH []

theorem sortH_swap (xs ys : List Hp) (hx : ∀ x ∈ xs, primH x) (hy : ∀ x ∈ ys, primH x) : sortH (xs ++ ys) = sortH (ys ++ xs) := by
  unfold sortH
  rw [List.foldl_append, List.foldl_append]
  exact (foldl_ins_swap ys xs hx hy [] (by simp)).symm ▸ rfl

theorem sdH_refl (g : Hp) : sdH g g = true := by unfold sdH; rw [show crH g g = 0 by unfold crH; grind]; simp

theorem befH_irrefl (g : Hp) : befH g g = false := by rcases tri g g with ⟨a, b, c, d⟩ | ⟨a, b, c, d⟩ | ⟨a, b, c, d⟩ <;> simp_all

theorem sdH_symm {g h : Hp} (hs : sdH g h = true) : sdH h g = true := by rcases tri g h with ⟨a, b, c, d⟩ | ⟨a, b, c, d⟩ | ⟨a, b, c, d⟩ <;> simp_all

def SortedH (l : List Hp) : Prop := l.Pairwise (fun g h => befH g h = true)

theorem insH_sorted (l : List Hp) (g : Hp) (hl : ∀ x ∈ l, primH x) (hg : primH g) (hs : SortedH l) : SortedH (insH l g) := by
  induction l with
  | nil => simp [insH, SortedH]
  | cons x l ih =>
    have hx := hl x (by simp)
    have hl' : ∀ y ∈ l, primH y := fun y hy => hl y (by simp [hy])
    unfold SortedH at hs ih ⊢
    rw [List.pairwise_cons] at hs
    have ih := ih hl' hs.2
    rcases tri x g with ⟨a, b, c, d⟩ | ⟨a, b, c, d⟩ | ⟨a, b, c, d⟩
    · rw [show insH (x :: l) g = x :: insH l g by simp [insH, a], List.pairwise_cons]
      refine ⟨fun y hy => ?_, ih⟩
      rcases insH_mem hy with h | h
      · exact hs.1 y h
      · rw [h]; exact a
    · rw [show insH (x :: l) g = tgH x g :: l by simp [insH, a, b], List.pairwise_cons]
      refine ⟨fun y hy => ?_, hs.2⟩
      rw [(tg_congr (k := y) hx hg b).1]
      exact hs.1 y hy
    · rw [show insH (x :: l) g = g :: x :: l by simp [insH, a, b], List.pairwise_cons, List.pairwise_cons]
      refine ⟨fun y hy => ?_, hs⟩
      rcases List.mem_cons.1 hy with h | h
      · rw [h]; exact c
      · exact bef_trans hg.1 hx.1 (hl' y h).1 c (hs.1 y h)

theorem foldl_ins_sorted (xs : List Hp) : ∀ (l : List Hp), (∀ x ∈ xs, primH x) → (∀ x ∈ l, primH x) → SortedH l → SortedH (xs.foldl insH l) := by
  induction xs with
  | nil => intro l _ _ h; exact h
  | cons g xs ih =>
    intro l hxs hl hs
    exact ih _ (fun x hx => hxs x (by simp [hx])) (insH_prim hl (hxs g (by simp))) (insH_sorted l g hl (hxs g (by simp)) hs)

/-- A half plane of a list that is at least as tight as another one of the same direction. -/
def Covers (L : List Hp) (y : Hp) : Prop := ∃ x ∈ L, sdH x y = true ∧ ¬ ltH y x

theorem ltH_irrefl (g : Hp) : ¬ ltH g g := by unfold ltH; omega

theorem cover_step {x x' y : Hp} (hx : primH x) (hx' : primH x') (hy : primH y) (h1 : sdH x y = true) (h2 : ¬ ltH y x) (h3 : sdH x' x = true) (h4 : ¬ ltH x x') : sdH x' y = true ∧ ¬ ltH y x' := by
  refine ⟨by rw [(bef_congr (k := y) hx'.1 hx.1 h3).2.2.1]; exact h1, fun h => ?_⟩
  have p1 := szH_pos hx.1
  have p2 := szH_pos hx'.1
  have p3 := szH_pos hy.1
  unfold ltH at *
  have a1 := Int.mul_le_mul_of_nonneg_right (Int.not_lt.1 h2) (Int.le_of_lt p2)
  have a2 := Int.mul_le_mul_of_nonneg_right (Int.not_lt.1 h4) (Int.le_of_lt p3)
  have a3 := Int.mul_lt_mul_of_pos_right h p1
  have e1 : x.2.2 * szH y * szH x' = x.2.2 * szH x' * szH y := by grind
  have e2 : y.2.2 * szH x * szH x' = y.2.2 * szH x' * szH x := by grind
  have e3 : x'.2.2 * szH x * szH y = x'.2.2 * szH y * szH x := by grind
  omega

theorem insH_covers {l : List Hp} {g : Hp} (hl : ∀ x ∈ l, primH x) (hg : primH g) : (∀ y ∈ l, Covers (insH l g) y) ∧ Covers (insH l g) g := by
  induction l with
  | nil => exact ⟨by simp, g, by simp [insH], sdH_refl g, ltH_irrefl g⟩
  | cons x l ih =>
    have hx := hl x (by simp)
    obtain ⟨ih1, ih2⟩ := ih (fun y hy => hl y (by simp [hy]))
    rcases tri x g with ⟨a, b, c, d⟩ | ⟨a, b, c, d⟩ | ⟨a, b, c, d⟩
    · rw [show insH (x :: l) g = x :: insH l g by simp [insH, a]]
      refine ⟨fun y hy => ?_, ?_⟩
      · rcases List.mem_cons.1 hy with h | h
        · rw [h]; exact ⟨x, by simp, sdH_refl x, ltH_irrefl x⟩
        · obtain ⟨z, hz, h1⟩ := ih1 y h
          exact ⟨z, by simp [hz], h1⟩
      · obtain ⟨z, hz, h1⟩ := ih2
        exact ⟨z, by simp [hz], h1⟩
    · rw [show insH (x :: l) g = tgH x g :: l by simp [insH, a, b]]
      have s1 : sdH (tgH x g) x = true := by rw [(tg_congr (k := x) hx hg b).2.2.1]; exact sdH_refl x
      have s2 : sdH (tgH x g) g = true := by rw [(tg_congr (k := g) hx hg b).2.2.1]; exact b
      have l1 : ¬ ltH x (tgH x g) := by
        unfold tgH; split
        · intro h; exact lt_asymm' h (by assumption)
        · exact ltH_irrefl x
      have l2 : ¬ ltH g (tgH x g) := by
        unfold tgH; split
        · exact ltH_irrefl g
        · assumption
      refine ⟨fun y hy => ?_, ⟨_, by simp, s2, l2⟩⟩
      rcases List.mem_cons.1 hy with h | h
      · rw [h]; exact ⟨_, by simp, s1, l1⟩
      · exact ⟨y, by simp [h], sdH_refl y, ltH_irrefl y⟩
    · rw [show insH (x :: l) g = g :: x :: l by simp [insH, a, b]]
      exact ⟨fun y hy => ⟨y, by simp only [List.mem_cons] at hy ⊢; exact .inr hy, sdH_refl y, ltH_irrefl y⟩, g, by simp, sdH_refl g, ltH_irrefl g⟩

theorem foldl_ins_prim (xs : List Hp) : ∀ (l : List Hp), (∀ x ∈ xs, primH x) → (∀ x ∈ l, primH x) → ∀ x ∈ xs.foldl insH l, primH x := by
  intro l hxs hl x hx
  rcases foldl_ins_mem xs hx with h | h
  · exact hl x h
  · exact hxs x h

theorem foldl_ins_covers (xs : List Hp) : ∀ (l : List Hp), (∀ x ∈ xs, primH x) → (∀ x ∈ l, primH x) → ∀ y, primH y → (Covers l y ∨ y ∈ xs) → Covers (xs.foldl insH l) y := by
  induction xs with
  | nil => intro l _ _ y _ h; rcases h with h | h; exact h; simp at h
  | cons g xs ih =>
    intro l hxs hl y hy h
    have hg := hxs g (by simp)
    have hxs' : ∀ x ∈ xs, primH x := fun x hx => hxs x (by simp [hx])
    refine ih _ hxs' (insH_prim hl hg) y hy ?_
    obtain ⟨c1, c2⟩ := insH_covers hl hg
    rcases h with ⟨x, hx, h1, h2⟩ | h
    · obtain ⟨x', hx', h3, h4⟩ := c1 x hx
      exact .inl ⟨x', hx', cover_step (hl x hx) (insH_prim hl hg x' hx') hy h1 h2 h3 h4⟩
    · rcases List.mem_cons.1 h with h | h
      · rw [h]; exact .inl c2
      · exact .inr h

theorem sortH_covers {xs : List Hp} (hxs : ∀ x ∈ xs, primH x) {y : Hp} (hy : y ∈ xs) : Covers (sortH xs) y :=
  foldl_ins_covers xs [] hxs (by simp) y (hxs y hy) (.inr hy)

theorem sortH_prim {xs : List Hp} (hxs : ∀ x ∈ xs, primH x) : ∀ x ∈ sortH xs, primH x := foldl_ins_prim xs [] hxs (by simp)

theorem sortH_sorted {xs : List Hp} (hxs : ∀ x ∈ xs, primH x) : SortedH (sortH xs) := foldl_ins_sorted xs [] hxs (by simp) List.Pairwise.nil

theorem sortH_mem {xs : List Hp} {x : Hp} (h : x ∈ sortH xs) : x ∈ xs := by
  rcases foldl_ins_mem xs h with h | h
  · simp at h
  · exact h

/-! Crossings, and places on a border. -/
def sH (h : Hp) : Int := h.1 * h.1 + h.2.1 * h.2.1

def pS (h g : Hp) (n : Int) : Int := if crH h g < 0 then -n else n

def pX (h g : Hp) : Int := pS h g (h.2.2 * g.2.1 - g.2.2 * h.2.1)

def pY (h g : Hp) : Int := pS h g (h.1 * g.2.2 - g.1 * h.2.2)

def pD (h g : Hp) : Int := pS h g (crH h g)

def kH (h g : Hp) : Int := g.2.2 * sH h - h.2.2 * (h.1 * g.1 + h.2.1 * g.2.1)

def mkN (h g : Hp) : Int := h.1 * pY h g - h.2.1 * pX h g

def inH (g : Hp) (x y d : Int) : Prop := g.1 * x + g.2.1 * y ≤ g.2.2 * d

def onH (g : Hp) (x y d : Int) : Prop := g.1 * x + g.2.1 * y = g.2.2 * d

def insL (L : List Hp) (x y d : Int) : Prop := ∀ g ∈ L, inH g x y d

def fltH (h g g' : Hp) : Prop := mkN h g * pD h g' < mkN h g' * pD h g

def EdgeB (h : Hp) (L : List Hp) : Prop := (∃ g ∈ L, crH h g < 0) ∧ (∃ g ∈ L, 0 < crH h g) ∧ ∀ g ∈ L, ∀ g' ∈ L, crH h g < 0 → 0 < crH h g' → fltH h g g'

def EdgeR (h : Hp) (L : List Hp) : Prop := ∃ g ∈ L, ∃ g' ∈ L, crH h g ≠ 0 ∧ crH h g' ≠ 0 ∧ insL L (pX h g) (pY h g) (pD h g) ∧ insL L (pX h g') (pY h g') (pD h g') ∧ ¬ (pX h g * pD h g' = pX h g' * pD h g ∧ pY h g * pD h g' = pY h g' * pD h g)

def roomH (g h : Hp) : Int := g.2.2 * szH h + h.2.2 * szH g

def NoVoid (L : List Hp) : Prop := ∀ g ∈ L, ∀ h ∈ L, g ≠ h → crH g h = 0 → 0 < roomH g h

theorem sq_nonneg (a : Int) : 0 ≤ a * a := by
  rcases (show 0 ≤ a ∨ a ≤ 0 by omega) with h | h
  · exact Int.mul_nonneg h h
  · exact Int.mul_nonneg_of_nonpos_of_nonpos h h

theorem sH_pos {h : Hp} (hd : dirH h) : 0 < sH h := by
  unfold dirH at hd
  unfold sH
  have h1 : 0 ≤ h.1 * h.1 := sq_nonneg _
  have h2 : 0 ≤ h.2.1 * h.2.1 := sq_nonneg _
  by_cases h0 : h.1 = 0
  · have h3 : h.2.1 ≠ 0 := fun e => hd ⟨h0, e⟩
    have : h.2.1 * h.2.1 ≠ 0 := fun e => h3 (by rcases Int.mul_eq_zero.1 e with e | e <;> exact e)
    omega
  · have : h.1 * h.1 ≠ 0 := fun e => h0 (by rcases Int.mul_eq_zero.1 e with e | e <;> exact e)
    omega

theorem pD_pos {h g : Hp} (h0 : crH h g ≠ 0) : 0 < pD h g := by unfold pD pS; split <;> omega

theorem on_self (h g : Hp) : onH h (pX h g) (pY h g) (pD h g) := by
  unfold onH pX pY pD pS crH; split <;> grind

theorem on_other (h g : Hp) : onH g (pX h g) (pY h g) (pD h g) := by
  unfold onH pX pY pD pS crH; split <;> grind

theorem place_x {h : Hp} {x y d : Int} (ho : onH h x y d) : sH h * x = h.1 * h.2.2 * d - h.2.1 * (h.1 * y - h.2.1 * x) := by
  unfold onH at ho; unfold sH; grind

theorem place_y {h : Hp} {x y d : Int} (ho : onH h x y d) : sH h * y = h.2.1 * h.2.2 * d + h.1 * (h.1 * y - h.2.1 * x) := by
  unfold onH at ho; unfold sH; grind

theorem place_in {h : Hp} {x y d : Int} (ho : onH h x y d) (g : Hp) : sH h * (g.1 * x + g.2.1 * y - g.2.2 * d) = (h.1 * y - h.2.1 * x) * crH h g - d * kH h g := by
  have e1 := place_x ho
  have e2 := place_y ho
  have e3 : sH h * (g.1 * x + g.2.1 * y - g.2.2 * d) = g.1 * (sH h * x) + g.2.1 * (sH h * y) - g.2.2 * d * sH h := by grind
  rw [e3, e1, e2]
  unfold crH kH
  generalize sH h = S
  generalize h.1 * y - h.2.1 * x = n
  grind

theorem mk_K (h g : Hp) (hd : dirH h) : mkN h g * crH h g = pD h g * kH h g := by
  have := place_in (on_self h g) g
  have ho := on_other h g
  unfold onH at ho
  rw [show g.1 * pX h g + g.2.1 * pY h g - g.2.2 * pD h g = 0 by omega, Int.mul_zero] at this
  unfold mkN
  omega

theorem nonpos_of_mul {s t : Int} (hs : 0 < s) : t ≤ 0 ↔ s * t ≤ 0 := by
  constructor
  · intro h; exact Int.mul_nonpos_of_nonneg_of_nonpos (Int.le_of_lt hs) h
  · intro h
    have : t < 0 ∨ t = 0 ∨ 0 < t := by omega
    rcases this with h' | h' | h'
    · omega
    · omega
    · have := Int.mul_pos hs h'; omega

/-- A point on a border lies in another half plane if its place on the border is on the right side of the crossing. -/
theorem in_iff {h : Hp} (hd : dirH h) {x y d : Int} (ho : onH h x y d) (g : Hp) : inH g x y d ↔ (h.1 * y - h.2.1 * x) * crH h g ≤ d * kH h g := by
  have e := place_in ho g
  have p := sH_pos hd
  have := nonpos_of_mul (t := g.1 * x + g.2.1 * y - g.2.2 * d) p
  unfold inH
  omega

theorem in_up {h : Hp} (hd : dirH h) {x y d : Int} (ho : onH h x y d) {g : Hp} (hg : 0 < crH h g) : inH g x y d ↔ (h.1 * y - h.2.1 * x) * pD h g ≤ mkN h g * d := by
  rw [in_iff hd ho]
  have e := mk_K h g hd
  have ed : pD h g = crH h g := by unfold pD pS; rw [if_neg (by omega)]
  rw [ed] at e ⊢
  have : mkN h g = kH h g := by
    have : crH h g * mkN h g = crH h g * kH h g := by rw [← e]; grind
    exact Int.eq_of_mul_eq_mul_left (by omega) this
  rw [this, Int.mul_comm d]

theorem in_low {h : Hp} (hd : dirH h) {x y d : Int} (ho : onH h x y d) {g : Hp} (hg : crH h g < 0) : inH g x y d ↔ mkN h g * d ≤ (h.1 * y - h.2.1 * x) * pD h g := by
  rw [in_iff hd ho]
  have e := mk_K h g hd
  have ed : pD h g = -crH h g := by unfold pD pS; rw [if_pos hg]
  rw [ed] at e ⊢
  have : mkN h g = -kH h g := by
    have : crH h g * mkN h g = crH h g * (-kH h g) := by
      have : mkN h g * crH h g = crH h g * (-kH h g) := by rw [e]; grind
      rw [← this]; grind
    exact Int.eq_of_mul_eq_mul_left (by omega) this
  rw [this]
  have e1 : (h.1 * y - h.2.1 * x) * -crH h g = -((h.1 * y - h.2.1 * x) * crH h g) := by grind
  have e2 : -kH h g * d = -(d * kH h g) := by grind
  omega

theorem kH_self {h g : Hp} (he : g = h) : kH h g = 0 := by subst he; unfold kH sH; grind

theorem kH_op {h g : Hp} (hh : dirH h) (hg : dirH g) (h0 : crH h g = 0) (hs : sdH h g = false) : szH h * kH h g = sH h * roomH h g := by
  obtain ⟨e1, e2⟩ := op_scale hg hh h0 hs
  have h1 : kH h g = g.2.2 * sH h - h.2.2 * (h.1 * g.1 + h.2.1 * g.2.1) := rfl
  have h2 : szH h * (h.1 * g.1 + h.2.1 * g.2.1) = -(szH g * sH h) := by
    have a1 : szH h * (h.1 * g.1 + h.2.1 * g.2.1) = h.1 * (szH h * g.1) + h.2.1 * (szH h * g.2.1) := by grind
    rw [a1, show szH h * g.1 = -(szH g * h.1) by omega, show szH h * g.2.1 = -(szH g * h.2.1) by omega]
    unfold sH; grind
  unfold roomH
  rw [h1]
  have : szH h * (g.2.2 * sH h - h.2.2 * (h.1 * g.1 + h.2.1 * g.2.1)) = szH h * g.2.2 * sH h - h.2.2 * (szH h * (h.1 * g.1 + h.2.1 * g.2.1)) := by grind
  rw [this, h2]
  grind

theorem sorted_sd {L : List Hp} (hs : SortedH L) : ∀ {g h : Hp}, g ∈ L → h ∈ L → g ≠ h → sdH g h = false := by
  intro g h hg hh hne
  unfold SortedH at hs
  induction hs with
  | nil => simp at hg
  | @cons x l h1 h2 ih =>
    rcases List.mem_cons.1 hg with e | e <;> rcases List.mem_cons.1 hh with e' | e'
    · subst e; subst e'; exact absurd rfl hne
    · subst e
      have := h1 h e'
      rcases tri g h with ⟨a, b, c, d⟩ | ⟨a, b, c, d⟩ | ⟨a, b, c, d⟩ <;> simp_all
    · subst e'
      have := h1 g e
      rcases tri g h with ⟨a, b, c, d⟩ | ⟨a, b, c, d⟩ | ⟨a, b, c, d⟩ <;> simp_all
    · exact ih e e'

theorem sorted_nodup {L : List Hp} (hs : SortedH L) : L.Nodup := by
  unfold SortedH at hs
  unfold List.Nodup
  exact hs.imp (fun {a b} h => by rintro rfl; rw [befH_irrefl] at h; cases h)

/-- What the lists here fulfil: valid half planes with ascending angles, some on each side of every direction. -/
structure GoodL (L : List Hp) : Prop where
  prim : ∀ x ∈ L, primH x
  sorted : SortedH L
  low : ∀ h, dirH h → ∃ g ∈ L, crH h g < 0
  up : ∀ h, dirH h → ∃ g ∈ L, 0 < crH h g

theorem par_in {L : List Hp} (G : GoodL L) (N : NoVoid L) {h g : Hp} (hh : h ∈ L) (hg : g ∈ L) (h0 : crH h g = 0) {x y d : Int} (ho : onH h x y d) (hd : 0 < d) : inH g x y d ∧ (g ≠ h → ¬ onH g x y d) := by
  by_cases e : g = h
  · subst e
    unfold onH at ho
    exact ⟨by unfold inH; omega, fun h => absurd rfl h⟩
  · have hs := sorted_sd G.sorted hh hg (Ne.symm e)
    have hr := N h hh g hg (Ne.symm e) h0
    have hk := kH_op (G.prim h hh).1 (G.prim g hg).1 h0 hs
    have p1 := szH_pos (G.prim h hh).1
    have p2 := sH_pos (G.prim h hh).1
    have hk0 : 0 < kH h g := by
      have := Int.mul_pos p2 hr
      rw [← hk] at this
      exact pos_of_pos_mul p1 this
    refine ⟨(in_iff (G.prim h hh).1 ho g).2 (by rw [h0]; have := Int.mul_pos hd hk0; omega), fun _ hog => ?_⟩
    have := place_in ho g
    unfold onH at hog
    rw [h0, show g.1 * x + g.2.1 * y - g.2.2 * d = 0 by omega] at this
    have := Int.mul_pos hd hk0
    omega

/-- The last of a list in a total order. -/
theorem exists_last {α : Type} (R : α → α → Prop) : ∀ (l : List α), l ≠ [] → (∀ a ∈ l, ∀ b ∈ l, R a b ∨ R b a) → (∀ a ∈ l, ∀ b ∈ l, ∀ c ∈ l, R a b → R b c → R a c) → ∃ m ∈ l, ∀ x ∈ l, R x m
  | [], h, _, _ => absurd rfl h
  | [a], _, ht, _ => ⟨a, by simp, fun x hx => by simp at hx; subst hx; rcases ht x (by simp) x (by simp) with h | h <;> exact h⟩
  | a :: b :: l, _, ht, hr => by
    obtain ⟨m, hm, hx⟩ := exists_last R (b :: l) (by simp) (fun x hx y hy => ht x (by simp only [List.mem_cons] at hx ⊢; exact .inr hx) y (by simp only [List.mem_cons] at hy ⊢; exact .inr hy)) (fun x hx y hy z hz => hr x (by simp only [List.mem_cons] at hx ⊢; exact .inr hx) y (by simp only [List.mem_cons] at hy ⊢; exact .inr hy) z (by simp only [List.mem_cons] at hz ⊢; exact .inr hz))
    have hm' : m ∈ a :: b :: l := by simp only [List.mem_cons] at hm ⊢; exact .inr hm
    rcases ht a (by simp) m hm' with h | h
    · refine ⟨m, hm', fun x hx' => ?_⟩
      rcases List.mem_cons.1 hx' with e | e
      · rw [e]; exact h
      · exact hx x e
    · refine ⟨a, by simp, fun x hx' => ?_⟩
      rcases List.mem_cons.1 hx' with e | e
      · rw [e]; rcases ht a (by simp) a (by simp) with h' | h' <;> exact h'
      · exact hr x hx' m hm' a (by simp) (hx x e) h

/-- The order of fractions with positive denominators. -/
theorem fle_trans {a b c d e f : Int} (hb : 0 < b) (hd : 0 < d) (hf : 0 < f) (h1 : a * d ≤ c * b) (h2 : c * f ≤ e * d) : a * f ≤ e * b := by
  have a1 := Int.mul_le_mul_of_nonneg_right h1 (Int.le_of_lt hf)
  have a2 := Int.mul_le_mul_of_nonneg_right h2 (Int.le_of_lt hb)
  have : a * f * d ≤ e * b * d := by
    have e1 : a * f * d = a * d * f := by grind
    have e2 : e * b * d = e * d * b := by grind
    have e3 : c * b * f = c * f * b := by grind
    omega
  exact Int.le_of_mul_le_mul_right this hd

theorem flt_of_lt_le {a b c d e f : Int} (hb : 0 < b) (hd : 0 < d) (hf : 0 < f) (h1 : a * d < c * b) (h2 : c * f ≤ e * d) : a * f < e * b := by
  have a1 := Int.mul_lt_mul_of_pos_right h1 hf
  have a2 := Int.mul_le_mul_of_nonneg_right h2 (Int.le_of_lt hb)
  have : a * f * d < e * b * d := by
    have e1 : a * f * d = a * d * f := by grind
    have e2 : e * b * d = e * d * b := by grind
    have e3 : c * b * f = c * f * b := by grind
    omega
  exact Int.lt_of_mul_lt_mul_right this (Int.le_of_lt hd)

theorem flt_of_le_lt {a b c d e f : Int} (hb : 0 < b) (hd : 0 < d) (hf : 0 < f) (h1 : a * d ≤ c * b) (h2 : c * f < e * d) : a * f < e * b := by
  have a1 := Int.mul_le_mul_of_nonneg_right h1 (Int.le_of_lt hf)
  have a2 := Int.mul_lt_mul_of_pos_right h2 hb
  have : a * f * d < e * b * d := by
    have e1 : a * f * d = a * d * f := by grind
    have e2 : e * b * d = e * d * b := by grind
    have e3 : c * b * f = c * f * b := by grind
    omega
  exact Int.lt_of_mul_lt_mul_right this (Int.le_of_lt hd)

/-- Of an edge: the last lower end, and the first upper end. -/
theorem last_low {L : List Hp} (G : GoodL L) {h : Hp} (hh : h ∈ L) : ∃ g ∈ L, crH h g < 0 ∧ ∀ g' ∈ L, crH h g' < 0 → mkN h g' * pD h g ≤ mkN h g * pD h g' := by
  obtain ⟨g0, h0, c0⟩ := G.low h (G.prim h hh).1
  have hne : L.filter (fun g => decide (crH h g < 0)) ≠ [] := by
    intro e
    have : g0 ∈ L.filter (fun g => decide (crH h g < 0)) := by simp [h0, c0]
    rw [e] at this; simp at this
  have q : ∀ {a}, a ∈ L.filter (fun g => decide (crH h g < 0)) → a ∈ L ∧ 0 < pD h a := by
    intro a ha
    simp only [List.mem_filter, decide_eq_true_eq] at ha
    exact ⟨ha.1, pD_pos (by omega)⟩
  obtain ⟨m, hm, hx⟩ := exists_last (fun a b => mkN h a * pD h b ≤ mkN h b * pD h a) _ hne (fun a _ b _ => by omega)
    (fun a ha b hb c hc h1 h2 => fle_trans (q ha).2 (q hb).2 (q hc).2 h1 h2)
  simp only [List.mem_filter, decide_eq_true_eq] at hm hx
  exact ⟨m, hm.1, hm.2, fun g' hg' hc => hx g' ⟨hg', hc⟩⟩

theorem first_up {L : List Hp} (G : GoodL L) {h : Hp} (hh : h ∈ L) : ∃ g ∈ L, 0 < crH h g ∧ ∀ g' ∈ L, 0 < crH h g' → mkN h g * pD h g' ≤ mkN h g' * pD h g := by
  obtain ⟨g0, h0, c0⟩ := G.up h (G.prim h hh).1
  have hne : L.filter (fun g => decide (0 < crH h g)) ≠ [] := by
    intro e
    have : g0 ∈ L.filter (fun g => decide (0 < crH h g)) := by simp [h0, c0]
    rw [e] at this; simp at this
  have q : ∀ {a}, a ∈ L.filter (fun g => decide (0 < crH h g)) → a ∈ L ∧ 0 < pD h a := by
    intro a ha
    simp only [List.mem_filter, decide_eq_true_eq] at ha
    exact ⟨ha.1, pD_pos (by omega)⟩
  obtain ⟨m, hm, hx⟩ := exists_last (fun a b => mkN h b * pD h a ≤ mkN h a * pD h b) _ hne (fun a _ b _ => by omega)
    (fun a ha b hb c hc h1 h2 => fle_trans (q hc).2 (q hb).2 (q ha).2 h2 h1)
  simp only [List.mem_filter, decide_eq_true_eq] at hm hx
  exact ⟨m, hm.1, hm.2, fun g' hg' hc => hx g' ⟨hg', hc⟩⟩

/-- A place on a border of an edge, between all lower and all upper ends, is inside. -/
theorem inside_of {L : List Hp} (G : GoodL L) (N : NoVoid L) {h g : Hp} (hh : h ∈ L) (h0 : crH h g ≠ 0)
    (hl : ∀ g' ∈ L, crH h g' < 0 → mkN h g' * pD h g ≤ mkN h g * pD h g') (hu : ∀ g' ∈ L, 0 < crH h g' → mkN h g * pD h g' ≤ mkN h g' * pD h g) : insL L (pX h g) (pY h g) (pD h g) := by
  intro g' hg'
  have hd := (G.prim h hh).1
  have ho := on_self h g
  rcases Int.lt_trichotomy (crH h g') 0 with c | c | c
  · exact (in_low hd ho c).2 (hl g' hg' c)
  · exact (par_in G N hh hg' c ho (pD_pos h0)).1
  · exact (in_up hd ho c).2 (hu g' hg' c)

theorem same_place {h : Hp} (hd : dirH h) {x y d x' y' d' : Int} (ho : onH h x y d) (ho' : onH h x' y' d') : (x * d' = x' * d ∧ y * d' = y' * d) ↔ (h.1 * y - h.2.1 * x) * d' = (h.1 * y' - h.2.1 * x') * d := by
  constructor
  · rintro ⟨e1, e2⟩
    have a1 : (h.1 * y - h.2.1 * x) * d' = h.1 * (y * d') - h.2.1 * (x * d') := by grind
    rw [a1, e1, e2]; grind
  · intro e
    have p := sH_pos hd
    have ex := place_x ho
    have ey := place_y ho
    have ex' := place_x ho'
    have ey' := place_y ho'
    generalize hn : h.1 * y - h.2.1 * x = n at *
    generalize hn' : h.1 * y' - h.2.1 * x' = n' at *
    constructor
    · refine Int.eq_of_mul_eq_mul_left (show sH h ≠ 0 by omega) ?_
      have a1 : sH h * (x * d') = (sH h * x) * d' := by grind
      have a2 : sH h * (x' * d) = (sH h * x') * d := by grind
      rw [a1, a2, ex, ex']
      have : (h.1 * h.2.2 * d - h.2.1 * n) * d' = h.1 * h.2.2 * d * d' - h.2.1 * (n * d') := by grind
      rw [this, e]; grind
    · refine Int.eq_of_mul_eq_mul_left (show sH h ≠ 0 by omega) ?_
      have a1 : sH h * (y * d') = (sH h * y) * d' := by grind
      have a2 : sH h * (y' * d) = (sH h * y') * d := by grind
      rw [a1, a2, ey, ey']
      have : (h.2.1 * h.2.2 * d + h.1 * n) * d' = h.2.1 * h.2.2 * d * d' + h.1 * (n * d') := by grind
      rw [this, e]; grind

/-- Without two opposite half planes that leave at most a line, both ways to tell an edge agree. -/
theorem edge_iff {L : List Hp} (G : GoodL L) (N : NoVoid L) {h : Hp} (hh : h ∈ L) : EdgeB h L ↔ EdgeR h L := by
  have hd := (G.prim h hh).1
  constructor
  · rintro ⟨_, _, hlt⟩
    obtain ⟨g, hg, cg, mg⟩ := last_low G hh
    obtain ⟨k, hk, ck, mk⟩ := first_up G hh
    have f := hlt g hg k hk cg ck
    have pg : 0 < pD h g := pD_pos (by omega)
    have pk : 0 < pD h k := pD_pos (by omega)
    refine ⟨g, hg, k, hk, by omega, by omega, ?_, ?_, ?_⟩
    · exact inside_of G N hh (by omega) mg (fun g' hg' c => Int.le_of_lt (hlt g hg g' hg' cg c))
    · exact inside_of G N hh (by omega) (fun g' hg' c => Int.le_of_lt (hlt g' hg' k hk c ck)) mk
    · rw [same_place hd (on_self h g) (on_self h k)]
      unfold fltH mkN at f
      omega
  · rintro ⟨g, hg, k, hk, cg, ck, ig, ik, hne⟩
    rw [same_place hd (on_self h g) (on_self h k)] at hne
    have pg : 0 < pD h g := pD_pos cg
    have pk : 0 < pD h k := pD_pos ck
    refine ⟨G.low h hd, G.up h hd, fun l hl u hu cl cu => ?_⟩
    have pl : 0 < pD h l := pD_pos (by omega)
    have pu : 0 < pD h u := pD_pos (by omega)
    have l1 := (in_low hd (on_self h g) cl).1 (ig l hl)
    have l2 := (in_low hd (on_self h k) cl).1 (ik l hl)
    have u1 := (in_up hd (on_self h g) cu).1 (ig u hu)
    have u2 := (in_up hd (on_self h k) cu).1 (ik u hu)
    unfold fltH
    rcases Int.lt_or_gt_of_ne hne with e | e
    · exact flt_of_lt_le pl pk pu (flt_of_le_lt pl pg pk l1 e) u2
    · exact flt_of_lt_le pl pg pu (flt_of_le_lt pl pk pg l2 e) u1

theorem plucker (h a b c : Hp) : crH a c * crH h b = crH a b * crH h c + crH b c * crH h a := by unfold crH; grind

theorem cross_sym {h g : Hp} (h0 : crH h g ≠ 0) : pX g h = pX h g ∧ pY g h = pY h g ∧ pD g h = pD h g := by
  have e := crH_neg h g
  unfold pX pY pD pS
  rw [e]
  by_cases c : crH h g < 0
  · rw [if_pos c, if_pos c, if_pos c, if_neg (by omega), if_neg (by omega), if_neg (by omega)]
    exact ⟨by omega, by omega, by omega⟩
  · rw [if_neg c, if_neg c, if_neg c, if_pos (by omega), if_pos (by omega), if_pos (by omega)]
    exact ⟨by omega, by omega, by omega⟩

/-- Behind an edge comes another one. -/
theorem next_edge {L : List Hp} (G : GoodL L) (N : NoVoid L) {h : Hp} (hh : h ∈ L) (he : EdgeB h L) : ∃ g ∈ L, 0 < crH h g ∧ EdgeB g L := by
  have hd := (G.prim h hh).1
  obtain ⟨k, hk, ck, mk⟩ := first_up G hh
  have pk : 0 < pD h k := pD_pos (by omega)
  have hkT : k ∈ L.filter (fun g => decide (0 < crH h g) && decide (mkN h g * pD h k = mkN h k * pD h g)) := by simp [hk, ck]
  obtain ⟨g, hg, hlast⟩ := exists_last (fun a b => 0 ≤ crH a b) (L.filter (fun g => decide (0 < crH h g) && decide (mkN h g * pD h k = mkN h k * pD h g))) (by intro e; rw [e] at hkT; simp at hkT)
    (fun a _ b _ => by have := crH_neg a b; omega)
    (fun a ha b hb c hc h1 h2 => by
      simp only [List.mem_filter, Bool.and_eq_true, decide_eq_true_eq] at ha hb hc
      have p := plucker h a b c
      have q1 := Int.mul_nonneg h1 (Int.le_of_lt hc.2.1)
      have q2 := Int.mul_nonneg h2 (Int.le_of_lt ha.2.1)
      rcases (show crH a c < 0 ∨ 0 ≤ crH a c by omega) with h3 | h3
      · have := Int.mul_neg_of_neg_of_pos h3 hb.2.1
        omega
      · exact h3)
  simp only [List.mem_filter, Bool.and_eq_true, decide_eq_true_eq] at hg hlast
  obtain ⟨hgL, cg, eg⟩ := hg
  have pg : 0 < pD h g := pD_pos (by omega)
  have hgd := (G.prim g hgL).1
  have mg : ∀ g' ∈ L, 0 < crH h g' → mkN h g * pD h g' ≤ mkN h g' * pD h g := fun g' hg' c => by
    exact fle_trans pg pk (pD_pos (by omega)) (by omega) (mk g' hg' c)
  have hin : insL L (pX h g) (pY h g) (pD h g) := inside_of G N hh (by omega) (fun g' hg' c => Int.le_of_lt (he.2.2 g' hg' g hgL c cg)) mg
  have hog : onH g (pX h g) (pY h g) (pD h g) := on_other h g
  have cgh : crH g h < 0 := by rw [crH_neg h g]; omega
  refine ⟨g, hgL, cg, G.low g hgd, G.up g hgd, fun l hl u hu cl cu => ?_⟩
  have pl : 0 < pD g l := pD_pos (by omega)
  have pu : 0 < pD g u := pD_pos (by omega)
  have l1 := (in_low hgd hog cl).1 (hin l hl)
  have u1 := (in_up hgd hog cu).1 (hin u hu)
  unfold fltH
  refine flt_of_le_lt pl pg pu l1 ?_
  rcases (show (g.1 * pY h g - g.2.1 * pX h g) * pD g u < mkN g u * pD h g ∨ (g.1 * pY h g - g.2.1 * pX h g) * pD g u = mkN g u * pD h g by omega) with c | c
  · exact c
  · exfalso
    -- the border of u goes through the point
    have hou : onH u (pX h g) (pY h g) (pD h g) := by
      have hsp := (same_place hgd hog (on_self g u)).2 c
      have h1 := on_other g u
      unfold onH at h1 ⊢
      have e1 : pD g u * (u.1 * pX h g + u.2.1 * pY h g) = u.1 * (pX h g * pD g u) + u.2.1 * (pY h g * pD g u) := by grind
      have e2 : u.1 * (pX g u * pD h g) + u.2.1 * (pY g u * pD h g) = (u.1 * pX g u + u.2.1 * pY g u) * pD h g := by grind
      refine Int.eq_of_mul_eq_mul_left (show pD g u ≠ 0 by omega) ?_
      rw [e1, hsp.1, hsp.2, e2, h1]
      grind
    have hoh := on_self h g
    rcases Int.lt_trichotomy (crH h u) 0 with cu' | cu' | cu'
    · have f := he.2.2 u hu g hgL cu' cg
      unfold fltH at f
      have pu' : 0 < pD h u := pD_pos (by omega)
      have hx : mkN h g * pD h u = mkN h u * pD h g := by
        refine (same_place hd hoh (on_self h u)).1 ?_
        have a := place_in hoh u
        have b := place_in (on_self h u) u
        have o2 := on_other h u
        unfold onH at hou o2
        rw [show u.1 * pX h g + u.2.1 * pY h g - u.2.2 * pD h g = 0 by omega, Int.mul_zero] at a
        rw [show u.1 * pX h u + u.2.1 * pY h u - u.2.2 * pD h u = 0 by omega, Int.mul_zero] at b
        refine (same_place hd hoh (on_self h u)).2 ?_
        refine Int.eq_of_mul_eq_mul_left (show crH h u ≠ 0 by omega) ?_
        have a' : crH h u * ((h.1 * pY h g - h.2.1 * pX h g) * pD h u) = ((h.1 * pY h g - h.2.1 * pX h g) * crH h u) * pD h u := by grind
        have b' : crH h u * ((h.1 * pY h u - h.2.1 * pX h u) * pD h g) = ((h.1 * pY h u - h.2.1 * pX h u) * crH h u) * pD h g := by grind
        rw [a', b', show (h.1 * pY h g - h.2.1 * pX h g) * crH h u = pD h g * kH h u by omega, show (h.1 * pY h u - h.2.1 * pX h u) * crH h u = pD h u * kH h u by omega]
        grind
      omega
    · by_cases e : u = h
      · subst e; omega
      · exact (par_in G N hh hu cu' hoh pg).2 e hou
    · have pu' : 0 < pD h u := pD_pos (by omega)
      have hx : mkN h g * pD h u = mkN h u * pD h g := by
        refine (same_place hd hoh (on_self h u)).1 ?_
        have a := place_in hoh u
        have b := place_in (on_self h u) u
        have o2 := on_other h u
        unfold onH at hou o2
        rw [show u.1 * pX h g + u.2.1 * pY h g - u.2.2 * pD h g = 0 by omega, Int.mul_zero] at a
        rw [show u.1 * pX h u + u.2.1 * pY h u - u.2.2 * pD h u = 0 by omega, Int.mul_zero] at b
        refine (same_place hd hoh (on_self h u)).2 ?_
        refine Int.eq_of_mul_eq_mul_left (show crH h u ≠ 0 by omega) ?_
        have a' : crH h u * ((h.1 * pY h g - h.2.1 * pX h g) * pD h u) = ((h.1 * pY h g - h.2.1 * pX h g) * crH h u) * pD h u := by grind
        have b' : crH h u * ((h.1 * pY h u - h.2.1 * pX h u) * pD h g) = ((h.1 * pY h u - h.2.1 * pX h u) * crH h u) * pD h g := by grind
        rw [a', b', show (h.1 * pY h g - h.2.1 * pX h g) * crH h u = pD h g * kH h u by omega, show (h.1 * pY h u - h.2.1 * pX h u) * crH h u = pD h u * kH h u by omega]
        grind
      have hT : mkN h u * pD h k = mkN h k * pD h u := by
        have t1 : mkN h u * pD h k ≤ mkN h k * pD h u := fle_trans (a := mkN h u) (b := pD h u) (c := mkN h g) (d := pD h g) (e := mkN h k) (f := pD h k) pu' pg pk (by omega) (by omega)
        have t2 := mk u hu cu'
        omega
      have := hlast u ⟨hu, cu', hT⟩
      have e := crH_neg g u
      omega

theorem nodup_le : ∀ (l m : List Hp), l.Nodup → (∀ x ∈ l, x ∈ m) → l.length ≤ m.length
  | [], m, _, _ => by simp
  | x :: l, m, hn, hs => by
    rw [List.nodup_cons] at hn
    have hx := hs x (by simp)
    have := nodup_le l (m.erase x) hn.2 (fun y hy => (List.mem_erase_of_ne (by rintro rfl; exact hn.1 hy)).2 (hs y (by simp [hy])))
    rw [List.length_erase_of_mem hx] at this
    have : 0 < m.length := List.length_pos_of_mem hx
    simp only [List.length_cons]
    omega

/-- If there is an edge, there are three. -/
theorem three_edges {L : List Hp} (G : GoodL L) (N : NoVoid L) {h : Hp} (hh : h ∈ L) (he : EdgeB h L) (p : Hp → Bool) (hp : ∀ g ∈ L, EdgeB g L → p g = true) : 3 ≤ (L.filter p).length := by
  obtain ⟨g, hg, c1, e1⟩ := next_edge G N hh he
  obtain ⟨k, hk, c2, e2⟩ := next_edge G N hg e1
  have n1 : h ≠ g := by rintro rfl; unfold crH at c1; grind
  have n2 : g ≠ k := by rintro rfl; unfold crH at c2; grind
  have n3 : h ≠ k := by rintro rfl; rw [crH_neg h g] at c2; omega
  have nd := (sorted_nodup G.sorted).filter p
  have m1 : h ∈ L.filter p := by simp [hh, hp h hh he]
  have m2 : g ∈ L.filter p := by simp [hg, hp g hg e1]
  have m3 : k ∈ L.filter p := by simp [hk, hp k hk e2]
  have hnd : [h, g, k].Nodup := by simp [n1, n2, n3]
  exact nodup_le [h, g, k] _ hnd (by intro x hx; simp at hx; rcases hx with rfl | rfl | rfl <;> assumption)

/-- With two opposite half planes that leave at most a line, at most two borders have two points inside. -/
theorem void_edges {L : List Hp} (G : GoodL L) {g h : Hp} (hg : g ∈ L) (hh : h ∈ L) (hne : g ≠ h) (h0 : crH g h = 0) (hr : roomH g h ≤ 0) {k : Hp} (hk : k ∈ L) (he : EdgeR k L) : k = g ∨ k = h := by
  have gd := (G.prim g hg).1
  have hd := (G.prim h hh).1
  have kd := (G.prim k hk).1
  have hs := sorted_sd G.sorted hg hh hne
  obtain ⟨e1, e2⟩ := op_scale hd gd h0 hs
  have p1 := szH_pos gd
  have p2 := szH_pos hd
  have tight : ∀ {x y d : Int}, 0 < d → insL L x y d → onH g x y d := by
    intro x y d hdp hi
    have i1 := hi g hg
    have i2 := hi h hh
    unfold inH at i1 i2
    unfold onH
    have a1 := Int.mul_le_mul_of_nonneg_left i1 (Int.le_of_lt p2)
    have a2 := Int.mul_le_mul_of_nonneg_left i2 (Int.le_of_lt p1)
    have s1 : szH h * (g.1 * x + g.2.1 * y) = szH h * g.1 * x + szH h * g.2.1 * y := by grind
    have s2 : szH g * (h.1 * x + h.2.1 * y) = szH g * h.1 * x + szH g * h.2.1 * y := by grind
    rw [e1, e2] at s1
    have s3 : -(szH g * h.1) * x + -(szH g * h.2.1) * y = -(szH g * h.1 * x + szH g * h.2.1 * y) := by grind
    have s4 : szH h * (g.2.2 * d) + szH g * (h.2.2 * d) = roomH g h * d := by unfold roomH; grind
    have s5 : roomH g h * d ≤ 0 := Int.mul_nonpos_of_nonpos_of_nonneg hr (Int.le_of_lt hdp)
    have : szH h * (g.1 * x + g.2.1 * y) = szH h * (g.2.2 * d) := by omega
    exact Int.eq_of_mul_eq_mul_left (show szH h ≠ 0 by omega) this
  obtain ⟨a, ha, b, hb, ca, cb, ia, ib, hdiff⟩ := he
  have t1 := tight (pD_pos ca) ia
  have t2 := tight (pD_pos cb) ib
  rw [same_place kd (on_self k a) (on_self k b)] at hdiff
  have q1 := place_in (on_self k a) g
  have q2 := place_in (on_self k b) g
  unfold onH at t1 t2
  rw [show g.1 * pX k a + g.2.1 * pY k a - g.2.2 * pD k a = 0 by omega, Int.mul_zero] at q1
  rw [show g.1 * pX k b + g.2.1 * pY k b - g.2.2 * pD k b = 0 by omega, Int.mul_zero] at q2
  have ck : crH k g = 0 := by
    rcases (show crH k g = 0 ∨ crH k g ≠ 0 by omega) with c | c
    · exact c
    · exfalso
      apply hdiff
      refine Int.eq_of_mul_eq_mul_left c ?_
      have a' : crH k g * ((k.1 * pY k a - k.2.1 * pX k a) * pD k b) = ((k.1 * pY k a - k.2.1 * pX k a) * crH k g) * pD k b := by grind
      have b' : crH k g * ((k.1 * pY k b - k.2.1 * pX k b) * pD k a) = ((k.1 * pY k b - k.2.1 * pX k b) * crH k g) * pD k a := by grind
      rw [a', b', show (k.1 * pY k a - k.2.1 * pX k a) * crH k g = pD k a * kH k g by omega, show (k.1 * pY k b - k.2.1 * pX k b) * crH k g = pD k b * kH k g by omega]
      grind
  by_cases c1 : k = g
  · exact .inl c1
  · right
    by_cases c2 : k = h
    · exact c2
    · exfalso
      have s1 := sorted_sd G.sorted hk hg c1
      have s2 := sorted_sd G.sorted hk hh c2
      have p3 := szH_pos kd
      obtain ⟨f1, f2⟩ := op_scale gd kd ck s1
      -- k is opposite to g, as h is
      have z : crH k h = 0 := by
        have : szH g * crH k h = 0 := by
          have e : szH g * crH k h = (szH g * k.1) * h.2.1 - (szH g * k.2.1) * h.1 := by unfold crH; grind
          rw [e, f1, f2]
          have : -(szH k * g.1) * h.2.1 - -(szH k * g.2.1) * h.1 = -(szH k * crH g h) := by unfold crH; grind
          rw [this, h0]; omega
        rcases Int.mul_eq_zero.1 this with h | h
        · omega
        · exact h
      obtain ⟨f3, f4⟩ := op_scale hd kd z s2
      -- szH h * k = - szH k * h, szH g * k = - szH k * g, szH h * g = - szH g * h
      have w1 : szH h * (szH g * k.1) = szH k * (szH g * h.1) := by
        rw [f1]; have : szH h * -(szH k * g.1) = -(szH k * (szH h * g.1)) := by grind
        rw [this, e1]; grind
      have w2 : szH g * (szH h * k.1) = -(szH k * (szH g * h.1)) := by rw [f3]; grind
      have w3 : szH h * (szH g * k.2.1) = szH k * (szH g * h.2.1) := by
        rw [f2]; have : szH h * -(szH k * g.2.1) = -(szH k * (szH h * g.2.1)) := by grind
        rw [this, e2]; grind
      have w4 : szH g * (szH h * k.2.1) = -(szH k * (szH g * h.2.1)) := by rw [f4]; grind
      have v1 : szH h * (szH g * k.1) = szH g * (szH h * k.1) := by grind
      have v2 : szH h * (szH g * k.2.1) = szH g * (szH h * k.2.1) := by grind
      have z1 : szH k * (szH g * h.1) = 0 := by omega
      have z2 : szH k * (szH g * h.2.1) = 0 := by omega
      apply hd
      constructor
      · rcases Int.mul_eq_zero.1 z1 with h | h
        · omega
        · rcases Int.mul_eq_zero.1 h with h | h
          · omega
          · exact h
      · rcases Int.mul_eq_zero.1 z2 with h | h
        · omega
        · rcases Int.mul_eq_zero.1 h with h | h
          · omega
          · exact h

theorem filter_two {L : List Hp} (nd : L.Nodup) (p : Hp → Bool) {g h : Hp} (hp : ∀ k ∈ L, p k = true → k = g ∨ k = h) : (L.filter p).length < 3 := by
  have := nodup_le (L.filter p) [g, h] (nd.filter p) (by
    intro x hx
    simp only [List.mem_filter] at hx
    rcases hp x hx.1 hx.2 with e | e <;> simp [e])
  simp at this
  omega

/-- Both ways to make a region of a good list agree. -/
theorem make_same {L : List Hp} (G : GoodL L) (pB pR : Hp → Bool) (hB : ∀ h ∈ L, (pB h = true ↔ EdgeB h L)) (hR : ∀ h ∈ L, (pR h = true ↔ EdgeR h L)) :
    (NoVoid L → (if (L.filter pR).length < 3 then [] else L.filter pR) = L.filter pB) ∧ (¬ NoVoid L → (L.filter pR).length < 3) := by
  constructor
  · intro N
    have e : L.filter pR = L.filter pB := by
      apply List.filter_congr
      intro h hh
      rw [Bool.eq_iff_iff, hB h hh, hR h hh, edge_iff G N hh]
    rw [e]
    split
    · rename_i h3
      cases hf : L.filter pB with
      | nil => rfl
      | cons x l =>
        exfalso
        have hx : x ∈ L.filter pB := by rw [hf]; simp
        simp only [List.mem_filter] at hx
        have := three_edges G N hx.1 ((hB x hx.1).1 hx.2) pB (fun g hg he => (hB g hg).2 he)
        omega
    · rfl
  · intro N
    unfold NoVoid at N
    by_cases h3 : (L.filter pR).length < 3
    · exact h3
    · exfalso
      apply N
      intro g hg h hh hne h0
      rcases (show 0 < roomH g h ∨ roomH g h ≤ 0 by omega) with c | c
      · exact c
      · exfalso
        exact h3 (filter_two (sorted_nodup G.sorted) pR (fun k hk hp => void_edges G hg hh hne h0 c hk ((hR k hk).1 hp)))

/-! The frame. -/
def frameL : List Hp := [(1, 0, 1000), (0, 1, 1000), (-1, 0, 1000), (0, -1, 1000)]

theorem frame_prim : ∀ x ∈ frameL, primH x := by
  intro x hx
  simp only [frameL, List.mem_cons, List.not_mem_nil, or_false] at hx
  rcases hx with rfl | rfl | rfl | rfl <;> (unfold primH dirH; simp)

theorem cover_cr {L : List Hp} (hL : ∀ x ∈ L, primH x) {e : Hp} (he : primH e) (hc : Covers L e) {h : Hp} : ∃ g ∈ L, (0 < crH h e → 0 < crH h g) ∧ (crH h e < 0 → crH h g < 0) := by
  obtain ⟨x, hx, hs, _⟩ := hc
  obtain ⟨s1, s2⟩ := sd_scale he.1 (hL x hx).1 hs
  have p1 := szH_pos he.1
  have p2 := szH_pos (hL x hx).1
  have e1 : szH e * crH h x = szH x * crH h e := by
    have : szH e * crH h x = h.1 * (szH e * x.2.1) - h.2.1 * (szH e * x.1) := by unfold crH; grind
    rw [this, s1, s2]; unfold crH; grind
  refine ⟨x, hx, (pos_of_mul p1 p2 e1).2, fun hn => ?_⟩
  have e2 : szH e * (-crH h x) = szH x * (-crH h e) := by grind
  have := (pos_of_mul p1 p2 e2).2 (by omega)
  omega

theorem good_sort {xs : List Hp} (hxs : ∀ x ∈ xs, primH x) (hf : ∀ x ∈ frameL, x ∈ xs) : GoodL (sortH xs) := by
  have hL := sortH_prim hxs
  have hc : ∀ e ∈ frameL, Covers (sortH xs) e := fun e he => sortH_covers hxs (hf e he)
  have key : ∀ h, dirH h → (∃ e ∈ frameL, crH h e < 0) ∧ ∃ e ∈ frameL, 0 < crH h e := by
    intro h hd
    unfold dirH at hd
    by_cases h1 : h.1 = 0
    · rcases (show h.2.1 < 0 ∨ 0 < h.2.1 by omega) with c | c
      · exact ⟨⟨(-1, 0, 1000), by simp [frameL], by unfold crH; simp; omega⟩, ⟨(1, 0, 1000), by simp [frameL], by unfold crH; simp; omega⟩⟩
      · exact ⟨⟨(1, 0, 1000), by simp [frameL], by unfold crH; simp; omega⟩, ⟨(-1, 0, 1000), by simp [frameL], by unfold crH; simp; omega⟩⟩
    · rcases (show h.1 < 0 ∨ 0 < h.1 by omega) with c | c
      · exact ⟨⟨(0, 1, 1000), by simp [frameL], by unfold crH; simp; omega⟩, ⟨(0, -1, 1000), by simp [frameL], by unfold crH; simp; omega⟩⟩
      · exact ⟨⟨(0, -1, 1000), by simp [frameL], by unfold crH; simp; omega⟩, ⟨(0, 1, 1000), by simp [frameL], by unfold crH; simp; omega⟩⟩
  refine ⟨hL, sortH_sorted hxs, fun h hd => ?_, fun h hd => ?_⟩
  · obtain ⟨⟨e, he, c⟩, _⟩ := key h hd
    obtain ⟨g, hg, _, h2⟩ := cover_cr hL (frame_prim e he) (hc e he) (h := h)
    exact ⟨g, hg, h2 c⟩
  · obtain ⟨_, ⟨e, he, c⟩⟩ := key h hd
    obtain ⟨g, hg, h2, _⟩ := cover_cr hL (frame_prim e he) (hc e he) (h := h)
    exact ⟨g, hg, h2 c⟩

/-- A point within a half plane that is at least as tight is within the other one. -/
theorem cover_in {L : List Hp} (hL : ∀ x ∈ L, primH x) {e : Hp} (he : primH e) (hc : Covers L e) {x y d : Int} (hd : 0 ≤ d) (hi : insL L x y d) : inH e x y d := by
  obtain ⟨g, hg, hs, hl⟩ := hc
  obtain ⟨s1, s2⟩ := sd_scale he.1 (hL g hg).1 hs
  have p1 := szH_pos he.1
  have p2 := szH_pos (hL g hg).1
  have i := hi g hg
  unfold inH at *
  unfold ltH at hl
  have a1 := Int.mul_le_mul_of_nonneg_left i (Int.le_of_lt p1)
  have a2 := Int.mul_le_mul_of_nonneg_right (Int.not_lt.1 hl) hd
  have e1 : szH e * (g.1 * x + g.2.1 * y) = (szH e * g.1) * x + (szH e * g.2.1) * y := by grind
  rw [s1, s2] at e1
  have e2 : szH g * (e.1 * x + e.2.1 * y) = szH g * e.1 * x + szH g * e.2.1 * y := by grind
  have e3 : szH e * (g.2.2 * d) = g.2.2 * szH e * d := by grind
  have e4 : szH g * (e.2.2 * d) = e.2.2 * szH g * d := by grind
  have : szH g * (e.1 * x + e.2.1 * y) ≤ szH g * (e.2.2 * d) := by omega
  exact Int.le_of_mul_le_mul_left this p2

theorem in_frame {xs : List Hp} (hxs : ∀ x ∈ xs, primH x) (hf : ∀ x ∈ frameL, x ∈ xs) {x y d : Int} (hd : 0 ≤ d) (hi : insL (sortH xs) x y d) : x ≤ 1000 * d ∧ -1000 * d ≤ x ∧ y ≤ 1000 * d ∧ -1000 * d ≤ y := by
  have hc : ∀ e ∈ frameL, inH e x y d := fun e he => cover_in (sortH_prim hxs) (frame_prim e he) (sortH_covers hxs (hf e he)) hd hi
  have h1 := hc (1, 0, 1000) (by simp [frameL])
  have h2 := hc (0, 1, 1000) (by simp [frameL])
  have h3 := hc (-1, 0, 1000) (by simp [frameL])
  have h4 := hc (0, -1, 1000) (by simp [frameL])
  unfold inH at h1 h2 h3 h4
  simp only at h1 h2 h3 h4
  omega

end Go.Proofs.Ythdaoadleeelnaa
