/- append on a slice of half planes that the call itself made: what it holds then, and where it lies. -/
import Derived.Test.YthdaoadleeelnaaReg
import Derived.Lib.AppendZeros
namespace Go.Proofs.Ythdaoadleeelnaa
open Go.ChangeShapes Go.WideShapes Go.ChangeAt Go.RowKit
attribute [local go_sem ↓] Go.wp_at_zero Go.wp_at_succ
set_option linter.unusedVariables false

theorem OwnH.form {w : World} {B : Nat} {v : Value} {hs : List Hp} (h : OwnH w B v hs) : ∃ A c, v = .slice A hs.length c := by
  rcases h.shape with ⟨e, e'⟩ | ⟨g, cap, e, _⟩
  · subst e'; exact ⟨none, 0, e⟩
  · exact ⟨_, cap, e⟩

theorem OwnH.at3 {w : World} {B n c : Nat} {A : Option Addr} {hs : List Hp} (h : OwnH w B (.slice A n c) hs) {k : Nat} (hk : k < hs.length) :
    ∃ g, A = some ⟨g, 0, none⟩ ∧ B ≤ g ∧ g < w.heap.size ∧ (w.cell? ⟨g, k * 3, none⟩ = some (.int .i64 hs[k].1) ∧ w.cell? ⟨g, k * 3 + 1, none⟩ = some (.int .i64 hs[k].2.1) ∧ w.cell? ⟨g, k * 3 + 2, none⟩ = some (.int .i64 hs[k].2.2)) ∧ (w.frozen? ⟨g, k * 3, none⟩ = false ∧ w.frozen? ⟨g, k * 3 + 1, none⟩ = false ∧ w.frozen? ⟨g, k * 3 + 2, none⟩ = false) := by
  rcases h.shape with ⟨e, e'⟩ | ⟨g, cap, e, hb, hlt, hn⟩
  · subst e'; simp at hk
  · injection e with e1 e2 e3
    subst e1 e2 e3
    obtain ⟨f1, f2, f3⟩ := flatH_get hs k hs[k] (List.getElem?_eq_getElem hk)
    unfold OwnH at h
    exact ⟨g, rfl, hb, hlt, ⟨(h.cellAt _ (by omega)).trans f1, (h.cellAt _ (by omega)).trans f2, (h.cellAt _ (by omega)).trans f3⟩, h.frozenAt _, h.frozenAt _, h.frozenAt _⟩

theorem flatH_app (l m : List Hp) : flatH (l ++ m) = flatH l ++ flatH m := by unfold flatH; rw [List.flatMap_append]

theorem flatH_one (l : List Hp) : ∀ u ∈ flatH l, u.oneCell' = true := by
  intro u hu
  unfold flatH at hu
  obtain ⟨h, _, hu⟩ := List.mem_flatMap.1 hu
  simp at hu
  rcases hu with rfl | rfl | rfl <;> rfl

theorem OwnH.low {w : World} {B : Nat} {v : Value} {L : List Hp} (h : OwnH w B v L) : ∀ q, v.ownBlock = some q → B ≤ q := fun q hq => (World.ownsRow.lt h q hq).1

theorem OwnH.lt {w : World} {B : Nat} {v : Value} {L : List Hp} (h : OwnH w B v L) : ∀ q, v.ownBlock = some q → q < w.heap.size := fun q hq => (World.ownsRow.lt h q hq).2

theorem add_lit (b o k : Nat) : (Addr.add ⟨b, o, none⟩ k : Addr) = ⟨b, o + k, none⟩ := by unfold Addr.add; split <;> simp_all
/-- The cells of a slice, one by one. -/
theorem HsAt.cells {w : World} {B b off : Nat} {hs : List Hp} (h : HsAt w B (some ⟨b, off, none⟩) hs) : ∀ j u, (flatH hs)[j]? = some u → w.cell? ((⟨b, off, none⟩ : Addr).add j) = some u := by
  intro j u hj
  rw [add_lit]
  have hjl : j < hs.length * 3 := by
    rcases Nat.lt_or_ge j (flatH hs).length with h' | h'
    · rwa [flatH_len] at h'
    · rw [List.getElem?_eq_none h'] at hj; cases hj
  have hk : j / 3 < hs.length := by omega
  obtain ⟨b', off', e, _, c0, c1, c2⟩ := h.at_ hk
  injection e with e; injection e with e1 e2; subst e1 e2
  obtain ⟨f0, f1, f2⟩ := flatH_get hs (j / 3) hs[j / 3] (List.getElem?_eq_getElem hk)
  rcases (show j % 3 = 0 ∨ j % 3 = 1 ∨ j % 3 = 2 by omega) with e | e | e
  · have ej : j = j / 3 * 3 := by omega
    rw [ej] at hj ⊢
    rw [f0] at hj; rw [← hj]; exact c0
  · have ej : j = j / 3 * 3 + 1 := by omega
    rw [ej] at hj ⊢
    rw [f1] at hj; rw [← hj]; exact c1
  · have ej : j = j / 3 * 3 + 2 := by omega
    rw [ej] at hj ⊢
    rw [f2] at hj; rw [← hj]; exact c2

/-- What an append leaves. -/
def Apd (w : World) (B : Nat) (v : Value) (L M : List Hp) (v' : Value) (w' : World) : Prop :=
  OwnH w' B v' (L ++ M) ∧ w.grownBy w' v.ownBlock ∧ (v'.ownBlock = v.ownBlock ∨ v'.ownBlock = some w.heap.size)

theorem appendH_run {w : World} {B : Nat} {v : Value} {L : List Hp} (hO : OwnH w B v L) {A : Option Addr} {m c : Nat} {M : List Hp} (hm : m = M.length) (hA : HsAt w w.heap.size A M) (hs : L.length + M.length ≤ 2097152) (hB : B ≤ w.heap.size) (ty : TypeId) :
    ∃ v' w', (Builtin.append_ #[22, 22] ty #[v, .slice A m c]).run Try.prog w = .ok v' w' ∧ Apd w B v L M v' w' := by
  obtain ⟨i0, hi0, hz0, hz1, hz2⟩ := info_parts infoH
  subst hm
  have hown := hO
  unfold OwnH at hown
  by_cases hM : M = []
  · subst hM
    refine ⟨v, w, ?_, by unfold Apd; rw [List.append_nil]; exact ⟨hO, World.grownBy.refl _ _, .inl rfl⟩⟩
    rcases hown.2 with ⟨rfl, e⟩ | ⟨g, cap, cur, rfl, _, _, hnc, _⟩
    · cases A <;> simp [Builtin.append_, run_underlying Try.underlying22, sizeOf, typeInfo, hi0, Builtin.lenOf, Builtin.firstCells, loadCells, loadCellsFrom]
    · cases A <;> simp [Builtin.append_, run_underlying Try.underlying22, sizeOf, typeInfo, hi0, Builtin.lenOf, Builtin.firstCells, hnc, storeCells, loadCells, loadCellsFrom]
  · rcases hA with e | ⟨b, off, rfl, hlt, hc⟩
    · exact absurd e hM
    · have hcells := HsAt.cells (.inr ⟨b, off, rfl, hlt, hc⟩ : HsAt w w.heap.size (some ⟨b, off, none⟩) M)
      have hpos : 0 < M.length := List.length_pos_iff.2 hM
      obtain ⟨v', w', hr, ho, hg, hnil⟩ := run_append_own (P := Try.prog) w B 22 ty 57 i0 (.agg #[.int .i64 0, .int .i64 0, .int .i64 0]) 3 24 Try.underlying22 hi0 hz0 hz1 hz2 rfl (by decide) v L.length (flatH L) hown ⟨b, off, none⟩ M.length c (flatH M) (flatH_len M) hcells (flatH_one M) (by unfold maxLen; omega) (by omega) hB
      refine ⟨v', w', hr, ?_, hg, ?_⟩
      · unfold OwnH; rw [flatH_app, List.length_append]; exact ho
      · rcases hown.2 with ⟨rfl, e⟩ | ⟨g, cap, cur, rfl, hbg, hgh, hnc, hcm, hcs, htake⟩
        · have e0 : L = [] := List.eq_nil_of_length_eq_zero e
          subst e0
          have hr2 := run_append_nil (P := Try.prog) w 22 ty 57 i0 (.agg #[.int .i64 0, .int .i64 0, .int .i64 0]) Try.underlying22 hi0 hz0 ⟨b, off, none⟩ M.length c (flatH M) (by rw [flatH_len, hz1]) hcells hpos (by omega) (by rw [hz2]; omega)
          rw [hr] at hr2
          injection hr2 with e1 e2
          subst e1
          exact .inr rfl
        · by_cases hroom : L.length + M.length ≤ cap
          · have hr2 := run_append_room (P := Try.prog) w 22 ty 57 i0 Try.underlying22 hi0 g L.length cap cur hgh ⟨b, off, none⟩ M.length c (flatH M) (by rw [flatH_len, hz1]) hcells (flatH_one M) hroom (by rw [flatH_len, hz1, hcs, ← Nat.add_mul]; exact Nat.mul_le_mul_right _ hroom)
            rw [hr] at hr2
            injection hr2 with e1 e2
            subst e1
            exact .inl rfl
          · have hr2 := run_append_grow (P := Try.prog) w 22 ty 57 i0 (.agg #[.int .i64 0, .int .i64 0, .int .i64 0]) Try.underlying22 hi0 hz0 ⟨g, 0, none⟩ L.length cap (flatH L) (by rw [flatH_len, hz1]) (hown.cells (g := g) rfl) ⟨b, off, none⟩ M.length c (flatH M) (by rw [flatH_len, hz1]) hcells (by omega) (by omega) (growslice_fits (by omega) (by rw [hz2]; omega))
            rw [hr] at hr2
            injection hr2 with e1 e2
            subst e1
            exact .inr rfl

theorem wpList_appendH {w : World} {ops : Array Oper} {rest : List Oper} {o : Oper} {a : Act} {Q : Exit → Act → World → Prop} (hgd : o.guard = none) (s x : Operand)
    (ho : o.op = .call { callee := .builtin .append, args := #[s, x], argTypes := #[22, 22] }) {B : Nat} {v : Value} {L : List Hp} {A : Option Addr} {m c : Nat} {M : List Hp} (hO : OwnH w B v L) (hv : a.eval s = v) (hx : a.eval x = .slice A m c)
    (hm : m = M.length) (hA : HsAt w w.heap.size A M) (hs : L.length + M.length ≤ 2097152) (hB : B ≤ w.heap.size)
    (h : ∀ v' w', Apd w B v L M v' w' → wpList Try.prog ops Q rest (a.put o.dst v') w') : wpList Try.prog ops Q (o :: rest) a w := by
  obtain ⟨v', w', hr, h2⟩ := appendH_run hO (c := c) hm hA hs hB o.type
  exact Lib.wpList_append_run w hgd s x _ _ ho v _ hv hx v' w' hr (h v' w' h2)

/-- A slice of one half plane that has just been made. -/
theorem hsAt_new (w : World) (a b c : Int) (t : TypeId) : HsAt (w.alloc (.cells #[.int .i64 a, .int .i64 b, .int .i64 c] t)) (w.alloc (.cells #[.int .i64 a, .int .i64 b, .int .i64 c] t)).heap.size (some ⟨w.heap.size, 0, none⟩) [(a, b, c)] := by
  refine .inr ⟨w.heap.size, 0, rfl, new_lt _ _, fun k h hk => ?_⟩
  match k, hk with
  | 0, hk =>
    simp at hk; subst hk
    exact ⟨cell_new_at _ _ _ 0 rfl, cell_new_at _ _ _ 1 rfl, cell_new_at _ _ _ 2 rfl⟩
  | k + 1, hk => simp at hk

theorem Apd.below {w w' w0 : World} {B : Nat} {v v' : Value} {L M : List Hp} (h : Apd w B v L M v' w') (hO : OwnH w B v L) (hb : Below B w0 w) (hB : B ≤ w.heap.size) : Below B w0 w' := hb.grown h.2.1 hB hO.low

theorem Apd.shape {w w' : World} {B : Nat} {v v' : Value} {L M : List Hp} (h : Apd w B v L M v' w') {k : Nat} (hk : M.length = k) (hM : 0 < k) : ∃ g c, v' = .slice (some ⟨g, 0, none⟩) (L.length + k) c ∧ B ≤ g ∧ g < w'.heap.size := by
  subst hk
  rcases h.1.shape with ⟨e, e'⟩ | ⟨g, cap, e, hb, hlt, hn⟩
  · rw [List.append_eq_nil_iff] at e'; rw [e'.2] at hM; simp at hM
  · rw [List.length_append] at e; exact ⟨g, cap, e, hb, hlt⟩
/-- A block besides stays as it was, and the slice does not come to lie in it. -/
theorem Apd.other {w w' : World} {B : Nat} {v v' : Value} {L M : List Hp} (h : Apd w B v L M v' w') {b : Nat} (hb : b < w.heap.size) (hne : v.ownBlock ≠ some b) : v'.ownBlock ≠ some b ∧ ∀ o x, w.cell? ⟨b, o, none⟩ = some x → w'.cell? ⟨b, o, none⟩ = some x := by
  refine ⟨fun e => ?_, fun o x hx => h.2.1.cell hx (fun e => hne e.symm)⟩
  rcases h.2.2 with q | q
  · rw [q] at e; exact hne e
  · rw [q] at e; injection e with e; omega

end Go.Proofs.Ythdaoadleeelnaa
