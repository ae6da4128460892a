/- Insertion into a list that is sorted by angle, by its place (plain). -/
import Derived.Test.YthdaoadleeelnaaRn1
import Derived.Test.YthdaoadleeelnaaHalf5
import Derived.Test.YthdaoadleeelnaaPlane
namespace Go.Proofs.Ythdaoadleeelnaa
open Go.ChangeShapes Go.WideShapes Go.ChangeAt Go.RowKit
attribute [local go_sem ↓] Go.wp_at_zero Go.wp_at_succ
set_option linter.unusedVariables false

theorem okH_prim {h : Hp} (ho : okH h = true) : primH h := by
  refine ⟨halfOkV_dir (c := h.2.2) ho, ?_⟩
  unfold okH halfOkV at ho
  simp only [Bool.and_eq_true, decide_eq_true_eq, gcdL_three] at ho
  exact ho.2.2.2.2

theorem bef_is (g h : Hp) : befV g.1 g.2.1 h.1 h.2.1 = befH g h := rfl

theorem sd_is (g h : Hp) : sdV g.1 g.2.1 h.1 h.2.1 = sdH g h := rfl

/-- The place at which a half plane belongs. -/
def AtPl (L : List Hp) (h : Hp) (j : Nat) : Prop := ∀ i, i < j → ∃ x, L[i]? = some x ∧ befH x h = true

theorem atPl_zero (L : List Hp) (h : Hp) : AtPl L h 0 := fun i hi => by omega

theorem atPl_step {L : List Hp} {h : Hp} {j : Nat} (ha : AtPl L h j) (hj : j < L.length) (hb : befH L[j] h = true) : AtPl L h (j + 1) := fun i hi => by
  by_cases e : i = j
  · subst e; exact ⟨_, List.getElem?_eq_getElem hj, hb⟩
  · exact ha i (by omega)

theorem insH_end : ∀ {L : List Hp} {h : Hp} {j : Nat}, AtPl L h j → j = L.length → insH L h = L.take j ++ h :: L.drop j
  | [], h, j, _, e => by subst e; rfl
  | x :: L, h, 0, _, e => by simp at e
  | x :: L, h, j + 1, ha, e => by
    obtain ⟨y, hy, hb⟩ := ha 0 (by omega)
    simp at hy; subst hy
    have := @insH_end L h j (fun i hi => by obtain ⟨z, hz, hb⟩ := ha (i + 1) (by omega); exact ⟨z, by simpa using hz, hb⟩) (by simpa using e)
    simp [insH, hb, this]

theorem insH_mid : ∀ {L : List Hp} {h : Hp} {j : Nat} (_ : AtPl L h j) (hj : j < L.length) (_ : befH L[j] h = false) (_ : sdH L[j] h = false), insH L h = L.take j ++ h :: L.drop j
  | [], h, j, _, hj, _, _ => by simp at hj
  | x :: L, h, 0, _, _, hb, hs => by
    simp only [List.getElem_cons_zero] at hb hs
    simp [insH, hb, hs]
  | x :: L, h, j + 1, ha, hj, hb, hs => by
    obtain ⟨y, hy, hb'⟩ := ha 0 (by omega)
    simp at hy; subst hy
    simp only [List.getElem_cons_succ] at hb hs
    have := @insH_mid L h j (fun i hi => by obtain ⟨z, hz, hb⟩ := ha (i + 1) (by omega); exact ⟨z, by simpa using hz, hb⟩) (by simpa using hj) hb hs
    simp [insH, hb', this]

theorem insH_same : ∀ {L : List Hp} {h : Hp} {j : Nat} (_ : AtPl L h j) (hj : j < L.length) (_ : befH L[j] h = false) (_ : sdH L[j] h = true), insH L h = L.set j (tgH L[j] h)
  | [], h, j, _, hj, _, _ => by simp at hj
  | x :: L, h, 0, _, _, hb, hs => by
    simp only [List.getElem_cons_zero] at hb hs
    simp [insH, hb, hs]
  | x :: L, h, j + 1, ha, hj, hb, hs => by
    obtain ⟨y, hy, hb'⟩ := ha 0 (by omega)
    simp at hy; subst hy
    simp only [List.getElem_cons_succ] at hb hs
    have := @insH_same L h j (fun i hi => by obtain ⟨z, hz, hb⟩ := ha (i + 1) (by omega); exact ⟨z, by simpa using hz, hb⟩) (by simpa using hj) hb hs
    simp [insH, hb', this]

theorem sortH_step {hs : List Hp} {k : Nat} (hk : k < hs.length) : sortH (hs.take (k + 1)) = insH (sortH (hs.take k)) hs[k] := by
  unfold sortH
  rw [List.take_succ_eq_append_getElem hk, List.foldl_append]; rfl

theorem insH_len (l : List Hp) (h : Hp) : (insH l h).length ≤ l.length + 1 := by
  induction l with
  | nil => simp [insH]
  | cons x l ih =>
    unfold insH
    split
    · simp; omega
    · split <;> simp

theorem insH_ok {l : List Hp} {h : Hp} (hl : ∀ x ∈ l, okH x = true) (hh : okH h = true) : ∀ x ∈ insH l h, okH x = true := fun x hx => by
  rcases insH_mem hx with e | e
  · exact hl x e
  · subst e; exact hh
/-- One step of the shift that makes room. -/
theorem shift_step {L : List Hp} {m : Nat} (x : Hp) (hm : 0 < m) (hl : m ≤ L.length) : (L.take m ++ x :: L.drop m).set m (L[m - 1]'(by omega)) = L.take (m - 1) ++ (L[m - 1]'(by omega)) :: L.drop (m - 1) := by
  obtain ⟨m, rfl⟩ : ∃ k, m = k + 1 := ⟨m - 1, by omega⟩
  simp only [Nat.add_sub_cancel]
  have e1 : (L.take (m + 1)).length = m + 1 := by simp; omega
  rw [List.set_append_right _ _ (by omega), e1, Nat.sub_self]
  rw [List.take_succ_eq_append_getElem (by omega)]
  conv => rhs; rw [List.drop_eq_getElem_cons (i := m) (by omega)]
  rw [List.append_assoc]; rfl

theorem shift_get {L : List Hp} {m : Nat} (x : Hp) (hm : 0 < m) (hl : m ≤ L.length) : (L.take m ++ x :: L.drop m)[m - 1]? = some (L[m - 1]'(by omega)) := by
  rw [List.getElem?_append_left (by simp; omega), List.getElem?_take_of_lt (by omega), List.getElem?_eq_getElem]

theorem shift_set {L : List Hp} {m : Nat} (x y : Hp) (hl : m ≤ L.length) : (L.take m ++ x :: L.drop m).set m y = L.take m ++ y :: L.drop m := by
  have e1 : (L.take m).length = m := by simp; omega
  rw [List.set_append_right _ _ (by omega), e1, Nat.sub_self]
  rfl

end Go.Proofs.Ythdaoadleeelnaa
