/- Fractions in writing, read back. Plain. -/
import Derived.Test.YtkmfejdmdiemaaaDoorFmr
import Derived.Test.YtkmfejdmdiemaaaDoorSplW
import Derived.Test.YtkmfejdmdiemaaaDoorPrsW
namespace Go.Proofs.YtkmfejdmdiemaaaDoor
open Go.ChangeShapes Go.WideShapes Go.ChangeAt Go.RowKit
attribute [local go_sem ↓] Go.wp_at_zero Go.wp_at_succ
set_option linter.unusedVariables false

def chkR (s : ByteArray) (n d : Int) : Option (Int × Int) := if ratioOkV n d = true ∧ fmtR n d = s then some (n, d) else none

def prL (s : ByteArray) : List ByteArray → Option (Int × Int)
  | [a] => (pI a.data.toList).bind fun n => chkR s n 1
  | [a, b] => (pI a.data.toList).bind fun n => (pI b.data.toList).bind fun d => chkR s n d
  | _ => none
/-- What ParseRatio reads. -/
def prV (s : ByteArray) : Option (Int × Int) := prL s (pcsB s ⟨#[47]⟩)

def PResR : Option (Int × Int) → Value
  | some (n, d) => .tuple #[.agg #[.int .i64 n, .int .i64 d], .bool true]
  | none => .tuple #[.agg #[.int .i64 0, .int .i64 0], .bool false]

theorem pcs_none (p : UInt8 → Bool) : ∀ (l cur : List UInt8), (∀ c ∈ l, p c = false) → pcs p cur l = [cur ++ l]
  | [], cur, _ => by simp [pcs]
  | c :: r, cur, h => by
    rw [pcs, if_neg (by rw [h c List.mem_cons_self]; simp), pcs_none p r _ (fun x hx => h x (List.mem_cons_of_mem _ hx))]
    simp

theorem pcs_cut (p : UInt8 → Bool) (c : UInt8) (r : List UInt8) (hc : p c = true) : ∀ (l cur : List UInt8), (∀ x ∈ l, p x = false) → pcs p cur (l ++ c :: r) = (cur ++ l) :: pcs p [] r
  | [], cur, _ => by simp [pcs, hc]
  | x :: l, cur, h => by
    rw [List.cons_append, pcs, if_neg (by rw [h x List.mem_cons_self]; simp), pcs_cut p c r hc l _ (fun y hy => h y (List.mem_cons_of_mem _ hy))]
    simp

/-- The bytes of a written number. -/
theorem itoa_byte (n : Int) (c : UInt8) (h : c ∈ Lib.itoa n) : c.toNat = 45 ∨ (48 ≤ c.toNat ∧ c.toNat ≤ 57) := by
  by_cases hn : n < 0
  · obtain ⟨u, rfl⟩ : ∃ u : Nat, n = -(u : Int) := ⟨n.natAbs, by omega⟩
    rw [Lib.itoa_neg u (by omega)] at h
    rcases List.mem_cons.1 h with rfl | h
    · exact .inl rfl
    · have := dec_digits u c h
      unfold isDg at this
      omega
  · obtain ⟨u, rfl⟩ : ∃ u : Nat, n = (u : Int) := ⟨n.toNat, by omega⟩
    rw [Lib.itoa_nonneg] at h
    have := dec_digits u c h
    unfold isDg at this
    omega

theorem amg_one (x c : UInt8) : amg ⟨#[x]⟩ c = (c == x) := by unfold amg; rw [Bool.eq_iff_iff]; simp

theorem amg_itoa {n : Int} {x : UInt8} (hx : x.toNat = 44 ∨ x.toNat = 47) : ∀ c ∈ Lib.itoa n, amg ⟨#[x]⟩ c = false := by
  intro c hc
  rw [amg_one]
  have := itoa_byte n c hc
  cases h : (c == x) with
  | false => rfl
  | true =>
    have e : c = x := by simpa using h
    subst e
    omega

theorem pcsB_no {s by_ : ByteArray} (h : ∀ c ∈ s.data.toList, amg by_ c = false) : pcsB s by_ = [s] := by
  unfold pcsB; rw [pcs_none _ _ _ h]; simp [bs_data]

theorem pcsB_cut {a b : ByteArray} {x : UInt8} (h : ∀ c ∈ a.data.toList, amg ⟨#[x]⟩ c = false) : pcsB (a ++ ⟨#[x]⟩ ++ b) ⟨#[x]⟩ = a :: pcsB b ⟨#[x]⟩ := by
  have e : (a ++ ⟨#[x]⟩ ++ b).data.toList = a.data.toList ++ x :: b.data.toList := by simp [ByteArray.data_append]
  unfold pcsB
  rw [e, pcs_cut _ _ _ (by rw [amg_one]; simp) _ _ h]
  simp [bs_data]

theorem fmtV_bytes (n : Int) : (fmtV n).data.toList = Lib.itoa n := by unfold fmtV; rw [bs_toList]

theorem pcsB_fmtV (n : Int) {x : UInt8} (hx : x.toNat = 44 ∨ x.toNat = 47) : pcsB (fmtV n) ⟨#[x]⟩ = [fmtV n] :=
  pcsB_no (by rw [fmtV_bytes]; exact amg_itoa hx)

/-- What was written is read back. -/
theorem prV_fmtR {n d : Int} (h : ratioOkV n d = true) : prV (fmtR n d) = some (n, d) := by
  obtain ⟨⟨d1, d2⟩, n1, n2⟩ := ratioOkV_bounds h
  have hc : chkR (fmtR n d) n d = some (n, d) := by unfold chkR; rw [if_pos ⟨h, rfl⟩]
  by_cases hd : d = 1
  · subst hd
    have e : pcsB (fmtR n 1) ⟨#[47]⟩ = [fmtV n] := by rw [fmtR_one h]; exact pcsB_fmtV n (.inr rfl)
    unfold prV
    rw [e, prL, fmtV_bytes, pI_itoa (by omega) (by omega)]
    exact hc
  · have e : pcsB (fmtR n d) ⟨#[47]⟩ = [fmtV n, fmtV d] := by
      rw [fmtR_two h hd, pcsB_cut (by rw [fmtV_bytes]; exact amg_itoa (.inr rfl)), pcsB_fmtV d (.inr rfl)]
    unfold prV
    rw [e, prL, fmtV_bytes, fmtV_bytes, pI_itoa (by omega) (by omega)]
    simp only [Option.bind_some]
    rw [pI_itoa (by omega) (by omega)]
    exact hc

theorem prL_bad (s : ByteArray) {l : List ByteArray} {a : ByteArray} (h0 : l[0]? = some a) (h : pI a.data.toList = none) : prL s l = none := by
  match l, h0 with
  | [a'], h0 => obtain rfl := Option.some.inj h0; rw [prL, h]; rfl
  | [a', b], h0 => obtain rfl := Option.some.inj h0; rw [prL, h]; rfl
  | _ :: _ :: _ :: _, _ => rfl

theorem prL_bad2 (s : ByteArray) {a b : ByteArray} (h : pI b.data.toList = none) : prL s [a, b] = none := by
  rw [prL]; cases pI a.data.toList <;> simp [h]

theorem prL_two (s : ByteArray) {a b : ByteArray} {n d : Int} (h : pI a.data.toList = some n) (h' : pI b.data.toList = some d) : prL s [a, b] = chkR s n d := by
  rw [prL, h, h']; rfl

theorem prL_one (s : ByteArray) {a : ByteArray} {n : Int} (h : pI a.data.toList = some n) : prL s [a] = chkR s n 1 := by
  rw [prL, h]; rfl

theorem prL_long (s : ByteArray) {l : List ByteArray} (h : 2 < l.length) : prL s l = none := by
  match l, h with
  | _ :: _ :: _ :: _, _ => rfl

theorem pcsB_ne (s by_ : ByteArray) : pcsB s by_ ≠ [] := by
  unfold pcsB; intro h; exact pcs_ne _ _ _ (List.map_eq_nil_iff.1 h)

theorem chkR_no {s : ByteArray} {n d : Int} (h : ratioOkV n d = false) : chkR s n d = none := by unfold chkR; rw [if_neg (by rw [h]; simp)]

theorem chkR_ne {s : ByteArray} {n d : Int} (h : fmtR n d ≠ s) : chkR s n d = none := by unfold chkR; rw [if_neg (fun e => h e.2)]

theorem chkR_yes {s : ByteArray} {n d : Int} (h : ratioOkV n d = true) (h' : fmtR n d = s) : chkR s n d = some (n, d) := by unfold chkR; rw [if_pos ⟨h, h'⟩]
/-- A text of more than two pieces is no number written alone. -/
theorem long_no {s : ByteArray} (h : 2 < (pcsB s ⟨#[47]⟩).length) {n : Int} (ho : ratioOkV n 1 = true) : fmtR n 1 ≠ s := by
  intro e
  rw [← e, fmtR_one ho, pcsB_fmtV n (.inr rfl)] at h
  simp at h

theorem prV_some {s : ByteArray} {n d : Int} (h : prV s = some (n, d)) : ratioOkV n d = true ∧ fmtR n d = s := by
  have key : ∀ n' d', chkR s n' d' = some (n, d) → ratioOkV n d = true ∧ fmtR n d = s := by
    intro n' d' h
    unfold chkR at h
    split at h
    · rename_i hh
      injection h with h
      injection h with h1 h2
      subst h1; subst h2; exact hh
    · cases h
  unfold prV at h
  match hl : pcsB s ⟨#[47]⟩, h with
  | [a], h =>
    rw [prL] at h
    cases hp : pI a.data.toList with
    | none => rw [hp] at h; cases h
    | some m => rw [hp] at h; exact key _ _ h
  | [a, b], h =>
    rw [prL] at h
    cases hp : pI a.data.toList with
    | none => rw [hp] at h; cases h
    | some m =>
      rw [hp] at h
      cases hq : pI b.data.toList with
      | none => rw [hq] at h; cases h
      | some k => rw [hq] at h; exact key _ _ h

theorem pcs_small (p : UInt8 → Bool) : ∀ (l cur : List UInt8), ∀ x ∈ pcs p cur l, x.length ≤ cur.length + l.length
  | [], cur, x, hx => by
    rw [pcs, List.mem_singleton] at hx; subst hx; simp
  | c :: r, cur, x, hx => by
    rw [pcs] at hx
    split at hx
    · rcases List.mem_cons.1 hx with rfl | hx
      · omega
      · have := pcs_small p r [] x hx
        simp only [List.length_nil, List.length_cons] at *; omega
    · have := pcs_small p r _ x hx
      simp only [List.length_append, List.length_cons, List.length_nil] at *; omega

theorem pcsB_small {s by_ x : ByteArray} (h : x ∈ pcsB s by_) : x.size ≤ s.size := by
  unfold pcsB at h
  obtain ⟨y, hy, rfl⟩ := List.mem_map.1 h
  have := pcs_small _ _ _ y hy
  rw [bs_size]
  simpa using this

theorem own_cell {w : World} {B g n c : Nat} {ls : List ByteArray} (h : OwnS w B (.slice (some ⟨g, 0, none⟩) n c) ls) {k : Nat} {x : ByteArray} (hk : ls[k]? = some x) : w.cell? ⟨g, k, none⟩ = some (.string x) ∧ g < w.heap.size := by
  obtain ⟨hl, he⟩ := List.getElem?_eq_some_iff.1 hk
  obtain ⟨b, off, e, hlt, hc⟩ := h.reads.2.at_ hl
  injection e with e
  injection e with e1 e2
  subst e1; subst e2
  rw [he] at hc
  exact ⟨by simpa using hc, hlt⟩

end Go.Proofs.YtkmfejdmdiemaaaDoor
