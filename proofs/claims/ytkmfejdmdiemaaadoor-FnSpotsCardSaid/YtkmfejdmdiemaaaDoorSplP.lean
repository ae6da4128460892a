/- Cutting a list of bytes at separators. Plain. -/
import Derived.Lib.IndexLaws
import Derived.Lib.IndexAny
namespace Go.Proofs.YtkmfejdmdiemaaaDoor
open Go.Lib
set_option linter.unusedVariables false

/-- A string of these bytes. -/
def bs (l : List UInt8) : ByteArray := ⟨l.toArray⟩

theorem bs_data (s : ByteArray) : bs s.data.toList = s := by cases s; simp [bs]

theorem bs_toList (l : List UInt8) : (bs l).data.toList = l := by simp [bs]

theorem bs_size (l : List UInt8) : (bs l).size = l.length := by simp [bs, ByteArray.size]

theorem bs_inj {l m : List UInt8} (h : bs l = bs m) : l = m := by
  have := congrArg (fun s => s.data.toList) h
  simpa [bs] using this

theorem bs_append (l m : List UInt8) : bs l ++ bs m = bs (l ++ m) := by
  apply ByteArray.ext
  simp [bs, ByteArray.data_append]

theorem bs_extract (s : ByteArray) (a b : Nat) : s.extract a b = bs ((s.data.toList.drop a).take (b - a)) := by
  apply ByteArray.ext
  apply Array.ext'
  simp [bs, ByteArray.data_extract]

/-- The pieces: cur is what the current one holds so far. -/
def pcs (p : UInt8 → Bool) : List UInt8 → List UInt8 → List (List UInt8)
  | cur, [] => [cur]
  | cur, c :: r => if p c then cur :: pcs p [] r else pcs p (cur ++ [c]) r

/-- A moment of the loop: done are the pieces so far, the current one begins at st. -/
def PcsAt (p : UInt8 → Bool) (s : ByteArray) (k st : Nat) (done : List (List UInt8)) : Prop :=
  st ≤ k ∧ k ≤ s.size ∧ done.length ≤ k ∧ done ++ pcs p ((s.data.toList.drop st).take (k - st)) (s.data.toList.drop k) = pcs p [] s.data.toList

theorem pcsAt_zero (p : UInt8 → Bool) (s : ByteArray) : PcsAt p s 0 0 [] := ⟨Nat.le_refl _, Nat.zero_le _, Nat.le_refl _, by simp⟩

theorem drop_at {s : ByteArray} {k : Nat} (h : k < s.size) : s.data.toList.drop k = s[k] :: s.data.toList.drop (k + 1) := by
  rw [List.drop_eq_getElem_cons (by simpa using h)]; rfl

theorem pcsAt_on {p : UInt8 → Bool} {s : ByteArray} {k st : Nat} {done : List (List UInt8)} (h : PcsAt p s k st done) (hk : k < s.size) (hp : p s[k] = false) : PcsAt p s (k + 1) st done := by
  obtain ⟨h1, h2, h3, h4⟩ := h
  refine ⟨by omega, by omega, by omega, ?_⟩
  rw [drop_at hk, pcs, hp] at h4
  have hl : s.data.toList.length = s.size := by simp
  have e : (s.data.toList.drop st).take (k + 1 - st) = (s.data.toList.drop st).take (k - st) ++ [s[k]] := by
    rw [show k + 1 - st = (k - st) + 1 by omega, List.take_succ_eq_append_getElem (by rw [List.length_drop]; omega)]
    refine congrArg (fun x => _ ++ [x]) ?_
    rw [List.getElem_drop]
    have e2 : ∀ (j : Nat) (hj : j < s.data.toList.length), j = k → s.data.toList[j] = s[k] := by intro j hj e; subst e; rfl
    exact e2 _ (by omega) (by omega)
  rw [e]
  simpa using h4

theorem pcsAt_cut {p : UInt8 → Bool} {s : ByteArray} {k st : Nat} {done : List (List UInt8)} (h : PcsAt p s k st done) (hk : k < s.size) (hp : p s[k] = true) : PcsAt p s (k + 1) (k + 1) (done ++ [(s.data.toList.drop st).take (k - st)]) := by
  obtain ⟨h1, h2, h3, h4⟩ := h
  refine ⟨by omega, by omega, by simp; omega, ?_⟩
  rw [drop_at hk, pcs, hp] at h4
  simpa using h4

theorem pcsAt_end {p : UInt8 → Bool} {s : ByteArray} {k st : Nat} {done : List (List UInt8)} (h : PcsAt p s k st done) (hk : ¬ k < s.size) : done ++ [(s.data.toList.drop st).take (s.size - st)] = pcs p [] s.data.toList := by
  obtain ⟨h1, h2, h3, h4⟩ := h
  have e : k = s.size := by omega
  subst e
  rw [List.drop_of_length_le (show s.data.toList.length ≤ s.size by simp), pcs] at h4
  exact h4

theorem pcs_length (p : UInt8 → Bool) : ∀ (l cur : List UInt8), (pcs p cur l).length ≤ l.length + 1
  | [], cur => by simp [pcs]
  | c :: r, cur => by
    rw [pcs]
    split
    · have := pcs_length p r []; simp only [List.length_cons]; omega
    · have := pcs_length p r (cur ++ [c]); simp only [List.length_cons]; omega

theorem pcs_ne (p : UInt8 → Bool) : ∀ (l cur : List UInt8), pcs p cur l ≠ []
  | [], cur => by simp [pcs]
  | c :: r, cur => by
    rw [pcs]
    split
    · simp
    · exact pcs_ne p r _

/-- Is the byte among the separators? -/
def amg (by_ : ByteArray) (c : UInt8) : Bool := by_.data.toList.contains c

theorem amg_index (b : ByteArray) (c : UInt8) : amg b c = decide (0 ≤ indexByte b.data.toList c) := contains_iff_indexByte _ _

end Go.Proofs.YtkmfejdmdiemaaaDoor
