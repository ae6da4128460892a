/- A slice of half planes that came in, and a region that came in: opened. -/
import Derived.Test.YthdaoadleeelnaaHs
import Derived.Deep.Slices
import Derived.Deep.Fields
import Derived.ChangeSame
import Derived.Lib.SmallJoins
namespace Go.Proofs.Ythdaoadleeelnaa
open Go.ChangeShapes Go.WideShapes Go.Deep Go.Joins Go.RowKit
set_option linter.unusedVariables false

def Ints3 (h : Hp) : Prop := (-9223372036854775808 ≤ h.1 ∧ h.1 ≤ 9223372036854775807) ∧ (-9223372036854775808 ≤ h.2.1 ∧ h.2.1 ≤ 9223372036854775807) ∧ (-9223372036854775808 ≤ h.2.2 ∧ h.2.2 ≤ 9223372036854775807)

theorem wf_bounds {n : Int} (h : (Lit.int .i64 n).wf = true) : -9223372036854775808 ≤ n ∧ n ≤ 9223372036854775807 := by
  simp [Lit.wf, IntKind.min, IntKind.max, IntKind.bits, IntKind.signed] at h
  omega

section
variable {H : Type} {enc : TypeId × Value → H} {P : Program} {w : World} {spare : Nat → Bool} {held : Bool}

theorem open_halves {t e : TypeId} {f0 f1 f2 : Field} (ht : P.underlying t = some (.slice e)) (he : P.underlying e = some (.struct #[f0, f1, f2])) (hone : oneCellFields P #[f0, f1, f2] = true) (hC : P.cellsOf e = 3)
    (hi0 : P.underlying f0.type = some (.int .i64)) (hi1 : P.underlying f1.type = some (.int .i64)) (hi2 : P.underlying f2.type = some (.int .i64))
    {fuel : Nat} {v : Value} {y : DataW H × List MemPlace} (h : DataW.trod enc P w 0 spare held fuel t [v] = some y) :
    ∃ (A : Option Addr) (n c : Nat) (hs : List Hp), v = .slice A n c ∧ n = hs.length ∧ n ≤ maxLen ∧ HsAt w w.heap.size A hs ∧ ∀ x ∈ hs, Ints3 x := by
  rcases open_slice ht h with ⟨hcs, _⟩ | ⟨a, len, cap, m, n, D, Pl, hcs, hb, hl, hm, hmm, hx, hi⟩
  · injection hcs with e _
    exact ⟨none, 0, 0, [], e, rfl, Nat.zero_le _, .inl rfl, by simp⟩
  · injection hcs with e _
    subst e
    have hlm : len ≤ m := by rw [hmm]; split <;> omega
    rcases Nat.eq_zero_or_pos len with h0 | h0
    · subst h0
      exact ⟨some a, 0, cap, [], rfl, rfl, Nat.zero_le _, .inl rfl, by simp⟩
    · obtain ⟨b, off, spot⟩ := a
      have hspot : spot = none := by
        obtain ⟨cs', hc, _⟩ := hi 0 (by omega)
        rw [hC] at hc
        obtain ⟨_, hcl, hat⟩ := World.cells?_some hc
        have q0 := hat 0 (by omega)
        rw [List.getElem?_eq_getElem (by omega)] at q0
        simpa [Addr.add] using World.cell?_spot q0
      subst hspot
      have hadd : ∀ o k : Nat, (Addr.add ⟨b, o, none⟩ k : Addr) = ⟨b, o + k, none⟩ := by
        intro o k; unfold Addr.add; split <;> simp_all
      have each : ∀ i, ∃ x : Hp, i < len → (w.cell? ⟨b, off + i * 3, none⟩ = some (.int .i64 x.1) ∧ w.cell? ⟨b, off + i * 3 + 1, none⟩ = some (.int .i64 x.2.1) ∧ w.cell? ⟨b, off + i * 3 + 2, none⟩ = some (.int .i64 x.2.2)) ∧ Ints3 x := by
        intro i
        by_cases hlt : i < len
        · obtain ⟨cs', hc, htr⟩ := hi i (by omega)
          rw [hC] at hc
          obtain ⟨_, hcl, hat⟩ := World.cells?_some hc
          obtain ⟨y0, y1, y2, n', hy, _, g0, g1, g2⟩ := trod_struct3 he htr
          match cs', hcl with
          | [v0, v1, v2], _ =>
            obtain ⟨o0, k0⟩ := hone_of hone 0 f0 rfl
            obtain ⟨o1, k1⟩ := hone_of hone 1 f1 rfl
            obtain ⟨o2, k2⟩ := hone_of hone 2 f2 rfl
            rw [o0, k0] at g0
            rw [o1, k1] at g1
            rw [o2, k2] at g2
            obtain ⟨x0, e0, _, w0⟩ := DataW.trod_int hi0 g0
            obtain ⟨x1, e1, _, w1⟩ := DataW.trod_int hi1 g1
            obtain ⟨x2, e2, _, w2⟩ := DataW.trod_int hi2 g2
            simp only [List.drop_zero, List.take_succ_cons, List.take_zero, List.drop_succ_cons, List.cons.injEq, and_true] at e0 e1 e2
            subst e0 e1 e2
            have q0 := hat 0 (by omega)
            have q1 := hat 1 (by omega)
            have q2 := hat 2 (by omega)
            simp only [hadd] at q0 q1 q2
            refine ⟨(x0, x1, x2), fun _ => ⟨⟨?_, ?_, ?_⟩, wf_bounds w0, wf_bounds w1, wf_bounds w2⟩⟩
            · exact q0
            · exact q1
            · exact q2
        · exact ⟨(0, 0, 0), fun h => absurd h hlt⟩
      obtain ⟨f, hf⟩ := Classical.axiomOfChoice each
      have c0 := (hf 0 h0).1.1
      have hlt : b < w.heap.size := by
        rcases Nat.lt_or_ge b w.heap.size with h | h
        · exact h
        · simp [World.cell?, Array.getElem?_eq_none h] at c0
      refine ⟨_, len, cap, (List.range len).map f, rfl, by simp, by omega, .inr ⟨b, off, rfl, hlt, fun k x hx => ?_⟩, fun x hx => ?_⟩
      · rw [List.getElem?_map] at hx
        by_cases hk : k < len
        · rw [List.getElem?_range hk] at hx
          injection hx with hx
          subst hx
          obtain ⟨⟨a1, a2, a3⟩, _⟩ := hf k hk
          exact ⟨a1, a2, a3⟩
        · rw [List.getElem?_eq_none (by simp; omega)] at hx
          cases hx
      · obtain ⟨i, hi, rfl⟩ := List.mem_map.1 hx
        exact (hf i (List.mem_range.1 hi)).2

theorem open_region {tr e : TypeId} {fr f0 f1 f2 : Field} (hr : P.underlying tr = some (.struct #[fr])) (hrone : oneCellFields P #[fr] = true) (hrC : P.cellsOf tr = 1) (ht : P.underlying fr.type = some (.slice e)) (he : P.underlying e = some (.struct #[f0, f1, f2])) (hone : oneCellFields P #[f0, f1, f2] = true) (hC : P.cellsOf e = 3)
    (hi0 : P.underlying f0.type = some (.int .i64)) (hi1 : P.underlying f1.type = some (.int .i64)) (hi2 : P.underlying f2.type = some (.int .i64))
    {v : Value} {d : DataW H} {p : List MemPlace} {b0 : Nat} (hv : Value.okWide P w .any b0 tr v) (h : DataW.Trod enc P w 0 spare held tr v d p) :
    ∃ (A : Option Addr) (n c : Nat) (hs : List Hp), v = .agg #[.slice A n c] ∧ n = hs.length ∧ n ≤ maxLen ∧ HsAt w w.heap.size A hs ∧ ∀ x ∈ hs, Ints3 x := by
  obtain ⟨cs, rfl, hsz⟩ := okWide_struct hr hv
  rw [hrC] at hsz
  match cs, hsz with
  | ⟨[c0]⟩, _ =>
    obtain ⟨fuel, hf⟩ := h
    obtain ⟨y0, n, hx, _, h0⟩ := trod_struct1 hr hf
    obtain ⟨o0, k0⟩ := hone_of hrone 0 fr rfl
    rw [o0, k0] at h0
    have h1 : DataW.trod enc P w 0 spare held n fr.type [c0] = some y0 := h0
    obtain ⟨A, m, c, hs, rfl, r⟩ := open_halves ht he hone hC hi0 hi1 hi2 h1
    exact ⟨A, m, c, hs, rfl, r⟩

theorem open_halves' {t e : TypeId} {f0 f1 f2 : Field} (ht : P.underlying t = some (.slice e)) (he : P.underlying e = some (.struct #[f0, f1, f2])) (hone : oneCellFields P #[f0, f1, f2] = true) (hC : P.cellsOf e = 3)
    (hi0 : P.underlying f0.type = some (.int .i64)) (hi1 : P.underlying f1.type = some (.int .i64)) (hi2 : P.underlying f2.type = some (.int .i64))
    {v : Value} {d : DataW H} {p : List MemPlace} {b0 : Nat} (hv : Value.okWide P w .any b0 t v) (h : DataW.Trod enc P w 0 spare held t v d p) :
    ∃ (A : Option Addr) (n c : Nat) (hs : List Hp), v = .slice A n c ∧ n = hs.length ∧ n ≤ maxLen ∧ HsAt w w.heap.size A hs ∧ ∀ x ∈ hs, Ints3 x := by
  obtain ⟨a, l, c, rfl⟩ := okWide_slice ht hv
  obtain ⟨fuel, hf⟩ := h
  exact open_halves ht he hone hC hi0 hi1 hi2 hf
end

end Go.Proofs.Ythdaoadleeelnaa
