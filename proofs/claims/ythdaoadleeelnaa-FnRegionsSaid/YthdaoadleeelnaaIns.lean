/- What copy does with slices of half planes; the rows behind it (no walk). slices.Insert of one half plane: there is room. slices.Insert of one half plane: a new row; and all ways together. slices.Insert of one half plane: all ways together. -/
import Derived.Test.YthdaoadleeelnaaRn10
import Derived.Shelf.Spec.SlicesInsert
import Derived.Lib.AppendZerosOnto
import Derived.Laws.CopyOwn
import Derived.Laws.Externs
import Derived.Lib.Overlaps
namespace Go.Proofs.Ythdaoadleeelnaa
open Go.ChangeShapes Go.WideShapes Go.ChangeAt Go.RowKit
attribute [local go_sem ↓] Go.wp_at_zero Go.wp_at_succ
set_option linter.unusedVariables false

theorem hid_copy_m {m : Nat} : goInt m = .int .i64 m := rfl

/-- copy between slices of half planes: m of them go over. -/
theorem run_copyH {w : World} {ty : TypeId} {g off dLen dCap : Nat} {a : Addr} {sLen sCap : Nat} {cur : Array Value} {cs : List Value} (m : Nat) (hg : w.heap[g]? = some (.cells cur 57 (0, 0))) (hm : m = Nat.min sLen dLen) (hl : cs.length = m * 3)
    (hsrc : ∀ j v, cs[j]? = some v → w.cell? (a.add j) = some v) (hfit : off + cs.length ≤ cur.size) (h1 : ∀ v ∈ cs, v.oneCell' = true) :
    (Builtin.copy_ #[22, 22] ty #[.slice (some ⟨g, off, none⟩) dLen dCap, .slice (some a) sLen sCap]).run Try.prog w =
      .ok (goInt m) (w.setRow g (cur.toList.take off ++ cs ++ cur.toList.drop (off + cs.length)).toArray) := by
  obtain ⟨i0, hi0, hz0, hz1, hz2⟩ := info_parts infoH
  have hf := run_firstCells_some (P := Try.prog) w 3 m a sLen sCap cs hl hsrc
  have hst := run_storeCells_at Try.prog g off 57 cs 0 cur w hg (by simpa using hfit) h1
  simp only [Nat.add_zero] at hst
  simp [Builtin.copy_, run_underlying Try.underlying22, Builtin.lenOf, sizeOf, typeInfo, hi0, hz1, ← hm, hf, hst]

/-- Cells laid over a row from a place on. -/
def spl (X : List Value) (o : Nat) (cs : List Value) : List Value := X.take o ++ cs ++ X.drop (o + cs.length)

theorem spl_len {X cs : List Value} {o : Nat} (h : o + cs.length ≤ X.length) : (spl X o cs).length = X.length := by unfold spl; simp; omega

theorem spl_up {A Y1 Y2 Y3 H D : List Value} {h : Nat} (h1 : Y1.length = H.length) (h2 : Y2.length = D.length) (ha : A.length + H.length = h) :
    spl (A ++ (Y1 ++ (Y2 ++ Y3))) h D = A ++ (Y1 ++ (D ++ Y3)) := by
  subst ha
  unfold spl
  have e1 : (A ++ (Y1 ++ (Y2 ++ Y3))).take (A.length + H.length) = A ++ Y1 := by
    rw [← List.append_assoc, List.take_append_of_le_length (by simp; omega)]
    exact List.take_of_length_le (by simp; omega)
  have e2 : (A ++ (Y1 ++ (Y2 ++ Y3))).drop (A.length + H.length + D.length) = Y3 := by
    rw [← List.append_assoc, ← List.append_assoc, List.drop_append_of_le_length (by simp; omega)]
    rw [List.drop_eq_nil_of_le (by simp; omega)]; rfl
  rw [e1, e2]; simp

theorem spl_at {A Y1 H R : List Value} {h : Nat} (h1 : Y1.length = H.length) (ha : A.length = h) : spl (A ++ (Y1 ++ R)) h H = A ++ (H ++ R) := by
  subst ha
  unfold spl
  have e1 : (A ++ (Y1 ++ R)).take A.length = A := by simp
  have e2 : (A ++ (Y1 ++ R)).drop (A.length + H.length) = R := by
    rw [← List.append_assoc, List.drop_append_of_le_length (by simp; omega)]
    rw [List.drop_eq_nil_of_le (by simp; omega)]; rfl
  rw [e1, e2]; simp

theorem parts4 (X : List Value) (a b c : Nat) : X = X.take a ++ ((X.drop a).take b ++ (((X.drop a).drop b).take c ++ ((X.drop a).drop b).drop c)) := by
  rw [List.take_append_drop, List.take_append_drop, List.take_append_drop]

theorem take3_app {A B C R : List Value} {n : Nat} (h : A.length + B.length + C.length = n) : (A ++ (B ++ (C ++ R))).take n = A ++ (B ++ C) := by
  subst h
  have e : A ++ (B ++ (C ++ R)) = (A ++ (B ++ C)) ++ R := by simp
  rw [e, List.take_append_of_le_length (by simp; omega)]
  exact List.take_of_length_le (by simp; omega)

theorem flatH_take (L : List Hp) (i : Nat) : (flatH L).take (i * 3) = flatH (L.take i) := by
  induction L generalizing i with
  | nil => simp [flatH]
  | cons x L ih =>
    cases i with
    | zero => simp [flatH]
    | succ i => rw [flatH_cons, show (i + 1) * 3 = i * 3 + 1 + 1 + 1 by omega, List.take_succ_cons, List.take_succ_cons, List.take_succ_cons, ih, List.take_succ_cons, flatH_cons]

/-- A row in which an insertion made room in place. -/
theorem row_up {X : List Value} {L : List Hp} {n i : Nat} (h : Hp) (hn : L.length = n) (hi : i < n) (hX : X.take (n * 3) = flatH L) (hl : (n + 1) * 3 ≤ X.length) :
    (spl (spl X ((i + 1) * 3) (flatH (L.drop i))) (i * 3) (flatH [h])).take ((n + 1) * 3) = flatH (L.take i ++ h :: L.drop i) ∧ (spl (spl X ((i + 1) * 3) (flatH (L.drop i))) (i * 3) (flatH [h])).length = X.length := by
  have e := parts4 X (i * 3) 3 ((n - i) * 3)
  have l1 : (X.take (i * 3)).length = i * 3 := by simp; omega
  have l2 : ((X.drop (i * 3)).take 3).length = (flatH [h]).length := by simp [flatH_len]; omega
  have l3 : (((X.drop (i * 3)).drop 3).take ((n - i) * 3)).length = (flatH (L.drop i)).length := by simp [flatH_len]; omega
  have f1 : (flatH [h]).length = 3 := by simp [flatH_len]
  have f2 : (flatH (L.drop i)).length = (n - i) * 3 := by rw [flatH_len]; simp [hn]
  have hA : X.take (i * 3) = flatH (L.take i) := by
    rw [← flatH_take, ← hX, List.take_take]; congr 1; omega
  have u1 : spl X ((i + 1) * 3) (flatH (L.drop i)) = X.take (i * 3) ++ ((X.drop (i * 3)).take 3 ++ (flatH (L.drop i) ++ ((X.drop (i * 3)).drop 3).drop ((n - i) * 3))) := by
    conv => lhs; rw [e]
    exact spl_up (H := flatH [h]) l2 l3 (by rw [l1, f1]; omega)
  have u2 : spl (spl X ((i + 1) * 3) (flatH (L.drop i))) (i * 3) (flatH [h]) = X.take (i * 3) ++ (flatH [h] ++ (flatH (L.drop i) ++ ((X.drop (i * 3)).drop 3).drop ((n - i) * 3))) := by
    rw [u1]; exact spl_at l2 l1
  constructor
  · rw [u2, take3_app (by rw [l1, f1, f2]; omega), hA, ← flatH_app, ← flatH_app]; rfl
  · rw [spl_len, spl_len]
    · rw [f2]; omega
    · rw [spl_len (by rw [f2]; omega), f1]; omega
/-- A new row into which an insertion copied. -/
theorem row_new {Z : List Value} {L : List Hp} {n i : Nat} (h : Hp) (hn : L.length = n) (hi : i < n) (hl : (n + 1 - i) * 3 ≤ Z.length) :
    (spl (spl (flatH (L.take i) ++ Z) (i * 3) (flatH [h])) ((i + 1) * 3) (flatH (L.drop i))).take ((n + 1) * 3) = flatH (L.take i ++ h :: L.drop i) ∧ (spl (spl (flatH (L.take i) ++ Z) (i * 3) (flatH [h])) ((i + 1) * 3) (flatH (L.drop i))).length = (flatH (L.take i) ++ Z).length := by
  have l1 : (flatH (L.take i)).length = i * 3 := by rw [flatH_len]; simp; omega
  have f1 : (flatH [h]).length = 3 := by simp [flatH_len]
  have f2 : (flatH (L.drop i)).length = (n - i) * 3 := by rw [flatH_len]; simp [hn]
  have eZ : Z = Z.take 3 ++ ((Z.drop 3).take ((n - i) * 3) ++ (Z.drop 3).drop ((n - i) * 3)) := by rw [List.take_append_drop, List.take_append_drop]
  have z1 : (Z.take 3).length = (flatH [h]).length := by rw [f1]; simp; omega
  have z2 : ((Z.drop 3).take ((n - i) * 3)).length = (flatH (L.drop i)).length := by rw [f2]; simp; omega
  have u1 : spl (flatH (L.take i) ++ Z) (i * 3) (flatH [h]) = flatH (L.take i) ++ (flatH [h] ++ ((Z.drop 3).take ((n - i) * 3) ++ (Z.drop 3).drop ((n - i) * 3))) := by
    conv => lhs; rw [eZ]
    exact spl_at z1 l1
  have u2 : spl (spl (flatH (L.take i) ++ Z) (i * 3) (flatH [h])) ((i + 1) * 3) (flatH (L.drop i)) = flatH (L.take i) ++ (flatH [h] ++ (flatH (L.drop i) ++ (Z.drop 3).drop ((n - i) * 3))) := by
    rw [u1]; exact spl_up (H := flatH [h]) rfl z2 (by rw [l1, f1]; omega)
  constructor
  · rw [u2, take3_app (by rw [l1, f1, f2]; omega), ← flatH_app, ← flatH_app]; rfl
  · rw [spl_len, spl_len]
    · rw [f1, List.length_append, l1]; omega
    · rw [spl_len (by rw [f1, List.length_append, l1]; omega), f2, List.length_append, l1]; omega

theorem shape_of {w : World} {b : Nat} {c : Array Value} {t : TypeId} {fr : Nat × Nat} (h : w.heap[b]? = some (.cells c t fr)) : w.shape? b = some (t, c.size) := by unfold World.shape?; rw [h]

theorem frozen_of {w : World} {b o : Nat} {c : Array Value} {t : TypeId} (h : w.heap[b]? = some (.cells c t (0, 0))) : w.frozen? ⟨b, o, none⟩ = false := by unfold World.frozen?; rw [h]; simp

theorem cell_of_heap {w : World} {b o : Nat} {c : Array Value} {t : TypeId} {fr : Nat × Nat} (h : w.heap[b]? = some (.cells c t fr)) : w.cell? ⟨b, o, none⟩ = c[o]? := by unfold World.cell?; rw [h]; simp

theorem sizeOf_half (w : World) : (Go.sizeOf 57).run Try.prog w = .ok 3 w := by
  obtain ⟨i0, hi0, hz0, hz1, hz2⟩ := info_parts infoH
  simp [Go.sizeOf, typeInfo, hi0, hz1]

theorem overlapsH_run {w : World} {b g o lb cb : Nat} {cur : Array Value} {h : Hp} (hne : b ≠ g) (hb : w.heap[b]? = some (.cells (flatH [h]).toArray 57 (0, 0))) (hg : w.heap[g]? = some (.cells cur 57 (0, 0))) (hc : cur.size ≠ 0) :
    (callFunc 102 #[.slice (some ⟨b, 0, none⟩) 1 1, .slice (some ⟨g, o, none⟩) lb cb]).run Try.prog w = .ok (.value (.bool false)) w := by
  rw [run_callFunc_extern (P := Try.prog) (fn := Try.f102) (e := Extern.SlicesOverlaps.overlaps #[22, 22] #[4]) (by kernel_rfl) (by kernel_rfl) (by kernel_rfl) (by kernel_rfl) (by kernel_rfl),
    Lib.run_overlaps_apart w 22 4 57 Try.underlying22 3 sizeOf_half ⟨b, 0, none⟩ ⟨g, o, none⟩ 1 1 lb cb hne _ _ _ _ (shape_of hb) (shape_of hg) hc (frozen_of hb) (frozen_of hb)]
  rfl

theorem hcells {w : World} {b : Nat} {h : Hp} (hb : w.heap[b]? = some (.cells (flatH [h]).toArray 57 (0, 0))) : ∀ j v, (flatH [h])[j]? = some v → w.cell? ((⟨b, 0, none⟩ : Addr).add j) = some v := by
  intro j v hj
  rw [add_lit, Nat.zero_add, cell_of_heap hb]; simpa using hj

theorem flatH_drop (L : List Hp) (i : Nat) : (flatH L).drop (i * 3) = flatH (L.drop i) := by
  induction L generalizing i with
  | nil => simp [flatH]
  | cons x L ih =>
    cases i with
    | zero => simp
    | succ i => rw [flatH_cons, show (i + 1) * 3 = i * 3 + 1 + 1 + 1 by omega, List.drop_succ_cons, List.drop_succ_cons, List.drop_succ_cons, ih, List.drop_succ_cons]

/-- What an insertion leaves of a row. -/
def InsRow (w : World) (g cap : Nat) (L' : List Hp) (w' : World) : Prop := ∃ cur' : Array Value, w'.heap[g]? = some (.cells cur' 57 (0, 0)) ∧ cur'.size = cap * 3 ∧ cur'.toList.take (L'.length * 3) = flatH L'

theorem grownBy_setRow (w : World) (g : Nat) (cs : Array Value) : w.grownBy (w.setRow g cs) (some g) := ⟨rfl, rfl, rfl, by simp [World.setRow], fun k _ hk => setRow_other w g k cs (fun e => hk (by rw [e]))⟩

set_option maxHeartbeats 4000000 in
set_option maxRecDepth 100000 in
theorem insRoom (g b cap n i : Nat) (cur : Array Value) (L : List Hp) (h : Hp) (w : World) (hg : w.heap[g]? = some (.cells cur 57 (0, 0))) (hcs : cur.size = cap * 3) (hn : L.length = n) (hL : cur.toList.take (n * 3) = flatH L) (hi : i < n) (hroom : n + 1 ≤ cap) (hcm : cap ≤ 9223372036854775807) (hne : b ≠ g)
    (hb : w.heap[b]? = some (.cells (flatH [h]).toArray 57 (0, 0))) (hs : n ≤ 2000000) :
    Calls Try.prog 89 #[.slice (some ⟨g, 0, none⟩) n cap, .int .i64 i, .slice (some ⟨b, 0, none⟩) 1 1] w fun e w' =>
      e = .returned (.slice (some ⟨g, 0, none⟩) (n + 1) cap) ∧ InsRow w g cap (L.take i ++ h :: L.drop i) w' ∧ w.grownBy w' (some g) := by
  have f1 : (flatH [h]).length = 3 := by simp [flatH_len]
  have f2 : (flatH (L.drop i)).length = (n - i) * 3 := by rw [flatH_len]; simp [hn]
  have hXl : cur.toList.length = cap * 3 := by simpa using hcs
  have hov : ∀ lb cb, (callFunc 102 #[.slice (some ⟨b, 0, none⟩) 1 1, .slice (some ⟨g, (i + 1) * 3, none⟩) lb cb]).run Try.prog w = .ok (.value (.bool false)) w := fun lb cb => overlapsH_run hne hb hg (by omega)
  obtain ⟨w2, hw2⟩ : ∃ w2, w2 = w.drew.setRow g (spl cur.toList ((i + 1) * 3) (flatH (L.drop i))).toArray := ⟨_, rfl⟩
  have hsrc1 : ∀ j v, (flatH (L.drop i))[j]? = some v → w.drew.cell? ((⟨g, i * 3, none⟩ : Addr).add j) = some v := by
    intro j v hj
    rw [add_lit]
    show w.cell? _ = _
    rw [cell_of_heap hg]
    have e1 := (flatH_drop L i).symm
    rw [e1, List.getElem?_drop, ← hL, List.getElem?_take] at hj
    split at hj
    · simpa using hj
    · cases hj
  have hcp1 : ∀ ty dc sc, (Builtin.copy_ #[22, 22] ty #[.slice (some ⟨g, (i + 1) * 3, none⟩) (n + 1 - (i + 1)) dc, .slice (some ⟨g, i * 3, none⟩) (n + 1 - i) sc]).run Try.prog w.drew = .ok (goInt (n - i : Nat)) w2 := fun ty dc sc => by
    rw [run_copyH (w := w.drew) (cs := flatH (L.drop i)) (n - i) hg (by simp only [Nat.min_def]; split <;> omega) f2 hsrc1 (by rw [f2, hcs]; omega) (flatH_one _), hw2]
    rfl
  have hg2 : w2.heap[g]? = some (.cells (spl cur.toList ((i + 1) * 3) (flatH (L.drop i))).toArray 57 (0, 0)) := by rw [hw2]; exact setRow_heap w.drew g cur _ _ _ hg
  have hb2 : w2.heap[b]? = some (.cells (flatH [h]).toArray 57 (0, 0)) := by rw [hw2]; exact (setRow_other w.drew g b _ hne).trans hb
  have hsl : (spl cur.toList ((i + 1) * 3) (flatH (L.drop i))).length = cap * 3 := by rw [spl_len (by rw [f2, hXl]; omega), hXl]
  obtain ⟨w3, hw3⟩ : ∃ w3, w3 = w2.setRow g (spl (spl cur.toList ((i + 1) * 3) (flatH (L.drop i))) (i * 3) (flatH [h])).toArray := ⟨_, rfl⟩
  have hcp2 : ∀ ty dc, (Builtin.copy_ #[22, 22] ty #[.slice (some ⟨g, i * 3, none⟩) (n + 1 - i) dc, .slice (some ⟨b, 0, none⟩) 1 1]).run Try.prog w2 = .ok (goInt (1 : Nat)) w3 := fun ty dc => by
    rw [run_copyH (w := w2) (cs := flatH [h]) 1 hg2 (by simp only [Nat.min_def]; split <;> omega) (by rw [f1]) (hcells hb2) (by rw [f1]; simp only [List.size_toArray, hsl]; omega) (flatH_one _), hw3]
    rfl
  have hrow := row_up h hn hi hL (by rw [hXl]; omega)
  have hfin : InsRow w g cap (L.take i ++ h :: L.drop i) w3 ∧ w.grownBy w3 (some g) := by
    refine ⟨⟨_, by rw [hw3]; exact setRow_heap w2 g _ _ _ _ hg2, ?_, ?_⟩, ?_⟩
    · simp only [List.size_toArray]; rw [hrow.2, hXl]
    · have : (L.take i ++ h :: L.drop i).length = n + 1 := by simp; omega
      rw [this]; exact hrow.1
    · have q1 := grownBy_setRow w.drew g (spl cur.toList ((i + 1) * 3) (flatH (L.drop i))).toArray
      have q2 := grownBy_setRow w2 g (spl (spl cur.toList ((i + 1) * 3) (flatH (L.drop i))) (i * 3) (flatH [h])).toArray
      rw [← hw2] at q1; rw [← hw3] at q2
      exact ⟨q2.os.trans q1.os, q2.tape.trans q1.tape, q2.output.trans q1.output, Nat.le_trans q1.size q2.size, fun k hk hne => (q2.block k (Nat.lt_of_lt_of_le hk q1.size) hne).trans (q1.block k hk hne)⟩
  have HF := Lib.hid hfin
  have hz2 : ¬ ((i : Int) = (n : Int)) := by omega
  have hb4 : ¬ (cap = i) := by omega
  have hb5 : ¬ (cap = i + 1) := by omega
  have hb3 : (i : Int) ≤ (n : Int) + 1 := by omega
  have hin : i ≤ n := by omega
  have hw1 : IntKind.i64.wrap ((i : Int) + 1) = (i : Int) + 1 := IntWalk.i64_in _ (by omega)
  have hb1 : (0 : Int) ≤ (i : Int) + 1 := by omega
  have htn : ((i : Int) + 1).toNat = i + 1 := by omega
  have hle : (i : Int) + 1 ≤ (n : Int) + 1 := by omega
  clear hfin hrow hw3 hw2 hsl hg2 hb2 hsrc1 hg hb hL hXl hcs f1 f2
  go_enter Try.func89, Try.ntmps89
  go_wp2_with (simp only [hov])
  go_region_law (refine Go.Proofs.step_copy_runI rfl (.tmp 73) (.tmp 76) 22 22 rfl (.slice (some ⟨g, (i + 1) * 3, none⟩) (n + 1 - (i + 1)) (cap - (i + 1))) (.slice (some ⟨g, i * 3, none⟩) (n + 1 - i) (cap - i)) (by simp [Act.eval, Act.put]) (by simp [Act.eval, Act.put]) (hcp1 _ _ _) ?_)
  go_wp2_with (at_builtin; refine Go.Proofs.wpList_copy_runI _ rfl (.tmp 80) (.tmp 81) 22 22 rfl _ _ rfl rfl (hcp2 _ _) ?_)
  go_ret
  exact ⟨rfl, HF.out⟩

theorem zeros_len (k : Nat) : (Builtin.zeroCells (Value.agg #[.int .i64 0, .int .i64 0, .int .i64 0]).cells k).size = k * 3 := by
  rw [size_zeroCells]; rfl

set_option maxHeartbeats 4000000 in
set_option maxRecDepth 100000 in
theorem insGrow (g b cap n i : Nat) (cur : Array Value) (L : List Hp) (h : Hp) (w : World) (hg : w.heap[g]? = some (.cells cur 57 (0, 0))) (hcs : cur.size = cap * 3) (hn : L.length = n) (hL : cur.toList.take (n * 3) = flatH L) (hi : i < n) (hnc : n ≤ cap) (hroom : cap < n + 1)
    (hb : w.heap[b]? = some (.cells (flatH [h]).toArray 57 (0, 0))) (hs : n ≤ 2000000) :
    Calls Try.prog 89 #[.slice (some ⟨g, 0, none⟩) n cap, .int .i64 i, .slice (some ⟨b, 0, none⟩) 1 1] w fun e w' =>
      ∃ G, e = .returned (.slice (some ⟨w.heap.size, 0, none⟩) (n + 1) G) ∧ n + 1 ≤ G ∧ G ≤ maxLen ∧ InsRow w w.heap.size G (L.take i ++ h :: L.drop i) w' ∧ w.grownBy w' none := by
  obtain ⟨i0, hi0, hz0, hzs, hzb⟩ := info_parts infoH
  have f1 : (flatH [h]).length = 3 := by simp [flatH_len]
  have f2 : (flatH (L.drop i)).length = (n - i) * 3 := by rw [flatH_len]; simp [hn]
  have f3 : (flatH (L.take i)).length = i * 3 := by rw [flatH_len]; simp; omega
  have hXl : cur.toList.length = cap * 3 := by simpa using hcs
  have hgw : g < w.heap.size := (Array.getElem?_eq_some_iff.1 hg).1
  have hbw : b < w.heap.size := (Array.getElem?_eq_some_iff.1 hb).1
  have hcell : ∀ j v, (flatH L)[j]? = some v → w.cell? ⟨g, j, none⟩ = some v := by
    intro j v hj
    rw [cell_of_heap hg]
    rw [← hL, List.getElem?_take] at hj
    split at hj
    · simpa using hj
    · cases hj
  have hkk : (n : Int) + 1 - (i : Int) = ((n + 1 - i : Nat) : Int) := by omega
  have hik : i + (n + 1 - i) = n + 1 := by omega
  have hold : (Builtin.firstCells i0.size i (.slice (some ⟨g, 0, none⟩) i cap)).run Try.prog w.drew = .ok (flatH (L.take i)).toArray w.drew := by
    rw [hzs]
    exact run_firstCells_some w.drew 3 i ⟨g, 0, none⟩ i cap (flatH (L.take i)) f3 (fun j v hj => by
      rw [add_lit, Nat.zero_add]
      rw [← flatH_take, List.getElem?_take] at hj
      split at hj
      · exact hcell j v hj
      · cases hj)
  obtain ⟨G, hG⟩ : ∃ G, G = grownCap w (n + 1) cap 57 := ⟨_, rfl⟩
  obtain ⟨Z, hZ⟩ : ∃ Z : List Value, Z = (Builtin.zeroCells (Value.agg #[.int .i64 0, .int .i64 0, .int .i64 0]).cells (n + 1 - i)).toList ++ (Builtin.zeroCells (Value.agg #[.int .i64 0, .int .i64 0, .int .i64 0]).cells (G - (n + 1))).toList := ⟨_, rfl⟩
  have hGn : n + 1 ≤ G := by rw [hG]; exact grownCap_ge w _ _ _
  have hGm : G ≤ maxLen := by rw [hG]; exact grownCap_le_maxLen w (n + 1) cap _ (by unfold maxLen; omega)
  have hG63 : G ≤ 9223372036854775807 := by unfold maxLen at hGm; omega
  have hZl : Z.length = (G - i) * 3 := by
    rw [hZ, List.length_append, Array.length_toList, Array.length_toList, zeros_len, zeros_len]; omega
  obtain ⟨W1, hW1⟩ : ∃ W1, W1 = w.drew.alloc (.cells (flatH (L.take i) ++ Z).toArray 57) := ⟨_, rfl⟩
  have hrz : ∀ ty, (Builtin.append_ #[22, 3] ty #[.slice (some ⟨g, 0, none⟩) i cap, .int .i64 ((n : Int) + 1 - (i : Int))]).run Try.prog w = .ok (.slice (some ⟨w.heap.size, 0, none⟩) (n + 1) G) W1 := fun ty => by
    have h := Lib.run_append_grow_zeros (P := Try.prog) w 22 3 ty 57 i0 (.agg #[.int .i64 0, .int .i64 0, .int .i64 0]) .i64 .i64 Try.underlying22 Try.underlying3 hi0 hz0 (some ⟨g, 0, none⟩) i cap (flatH (L.take i)) hold (n + 1 - i) (by omega) (by omega) (by omega) (by omega) (by rw [hzb]; omega) (by rw [hzb, hik]; exact growslice_fits (by omega) (by omega))
    rw [hik] at h
    rw [hkk, h, ← hG, hW1]
    congr 3
    apply Array.toList_inj.1
    simp [hZ]
  have hgW : W1.heap[g]? = some (.cells cur 57 (0, 0)) := by rw [hW1]; exact (heap_alloc_old w.drew _ hgw).trans hg
  have hbW : W1.heap[b]? = some (.cells (flatH [h]).toArray 57 (0, 0)) := by rw [hW1]; exact (heap_alloc_old w.drew _ hbw).trans hb
  have hNW : W1.heap[w.heap.size]? = some (.cells (flatH (L.take i) ++ Z).toArray 57 (0, 0)) := by rw [hW1]; exact heap_alloc_new w.drew _
  have hg1 : w.grownBy W1 none := by rw [hW1]; exact ⟨rfl, rfl, rfl, by simp, fun k hk _ => heap_alloc_old w.drew _ hk⟩
  have hl0 : (flatH (L.take i) ++ Z).length = G * 3 := by rw [List.length_append, f3, hZl]; omega
  have hl1 : (spl (flatH (L.take i) ++ Z) (i * 3) (flatH [h])).length = G * 3 := by rw [spl_len (by rw [f1, hl0]; omega), hl0]
  obtain ⟨w2, hw2⟩ : ∃ w2, w2 = W1.setRow w.heap.size (spl (flatH (L.take i) ++ Z) (i * 3) (flatH [h])).toArray := ⟨_, rfl⟩
  have hcp1 : ∀ ty dc, (Builtin.copy_ #[22, 22] ty #[.slice (some ⟨w.heap.size, i * 3, none⟩) (n + 1 - i) dc, .slice (some ⟨b, 0, none⟩) 1 1]).run Try.prog W1 = .ok (goInt (1 : Nat)) w2 := fun ty dc => by
    rw [run_copyH (w := W1) (cs := flatH [h]) 1 hNW (by simp only [Nat.min_def]; split <;> omega) (by rw [f1]) (hcells hbW) (by rw [f1]; simp only [List.size_toArray, hl0]; omega) (flatH_one _), hw2]
    rfl
  have hN2 : w2.heap[w.heap.size]? = some (.cells (spl (flatH (L.take i) ++ Z) (i * 3) (flatH [h])).toArray 57 (0, 0)) := by rw [hw2]; exact setRow_heap W1 _ _ _ _ _ hNW
  have hgW2 : w2.heap[g]? = some (.cells cur 57 (0, 0)) := by rw [hw2]; exact (setRow_other W1 _ g _ (by omega)).trans hgW
  obtain ⟨w3, hw3⟩ : ∃ w3, w3 = w2.drew.setRow w.heap.size (spl (spl (flatH (L.take i) ++ Z) (i * 3) (flatH [h])) ((i + 1) * 3) (flatH (L.drop i))).toArray := ⟨_, rfl⟩
  have hsrc2 : ∀ j v, (flatH (L.drop i))[j]? = some v → w2.drew.cell? ((⟨g, i * 3, none⟩ : Addr).add j) = some v := by
    intro j v hj
    rw [add_lit]
    show w2.cell? _ = _
    rw [cell_of_heap hgW2]
    rw [← flatH_drop, List.getElem?_drop] at hj
    have := hcell _ _ hj
    rw [cell_of_heap hg] at this
    exact this
  have hcp2 : ∀ ty dc sc, (Builtin.copy_ #[22, 22] ty #[.slice (some ⟨w.heap.size, (i + 1) * 3, none⟩) (n + 1 - (i + 1)) dc, .slice (some ⟨g, i * 3, none⟩) (n - i) sc]).run Try.prog w2.drew = .ok (goInt (n - i : Nat)) w3 := fun ty dc sc => by
    rw [run_copyH (w := w2.drew) (cs := flatH (L.drop i)) (n - i) hN2 (by simp only [Nat.min_def]; split <;> omega) f2 hsrc2 (by rw [f2]; simp only [List.size_toArray, hl1]; omega) (flatH_one _), hw3]
    rfl
  have hrow := row_new (Z := Z) h hn hi (by rw [hZl]; omega)
  have hfin : InsRow w w.heap.size G (L.take i ++ h :: L.drop i) w3 ∧ w.grownBy w3 none := by
    refine ⟨⟨_, by rw [hw3]; exact setRow_heap w2.drew _ _ _ _ _ hN2, ?_, ?_⟩, ?_⟩
    · simp only [List.size_toArray]; rw [hrow.2, hl0]
    · have : (L.take i ++ h :: L.drop i).length = n + 1 := by simp; omega
      rw [this]; exact hrow.1
    · have q1 := grownBy_setRow W1 w.heap.size (spl (flatH (L.take i) ++ Z) (i * 3) (flatH [h])).toArray
      have q2 := grownBy_setRow w2.drew w.heap.size (spl (spl (flatH (L.take i) ++ Z) (i * 3) (flatH [h])) ((i + 1) * 3) (flatH (L.drop i))).toArray
      rw [← hw2] at q1; rw [← hw3] at q2
      refine ⟨q2.os.trans (q1.os.trans hg1.os), q2.tape.trans (q1.tape.trans hg1.tape), q2.output.trans (q1.output.trans hg1.output), Nat.le_trans hg1.size (Nat.le_trans q1.size q2.size), fun k hk _ => ?_⟩
      have hk1 := Nat.lt_of_lt_of_le hk hg1.size
      have hk2 := Nat.lt_of_lt_of_le hk1 q1.size
      have hne : some k ≠ some w.heap.size := by intro e; injection e; omega
      exact (q2.block k hk2 hne).trans ((q1.block k hk1 hne).trans (hg1.block k hk (by simp)))
  have HF := Lib.hid (And.intro hGn (And.intro hGm hfin))
  have hz2 : ¬ ((i : Int) = (n : Int)) := by omega
  have hz3 : (cap : Int) < (n : Int) + 1 := by omega
  have hGi : ¬ (G = i) := by omega
  have hGim : ¬ (G = i + 1) := by omega
  have hci : ¬ (cap = i) := by omega
  have hb3 : (i : Int) ≤ (n : Int) := by omega
  have hin : i ≤ n := by omega
  have hw1 : IntKind.i64.wrap ((i : Int) + 1) = (i : Int) + 1 := IntWalk.i64_in _ (by omega)
  have hb1 : (0 : Int) ≤ (i : Int) + 1 := by omega
  have htn : ((i : Int) + 1).toNat = i + 1 := by omega
  have hle : (i : Int) + 1 ≤ (n : Int) + 1 := by omega
  clear hfin hrow hw3 hw2 hl0 hl1 hg1 hsrc2 hg hb hL hXl hcs f1 f2 f3 hN2 hgW2 hNW hbW hgW hold hcell hkk hik hZl hZ hG hW1 hGm
  go_enter Try.func89, Try.ntmps89
  go_wp2_with (first
    | (at_builtin; refine Lib.wpList_append_run _ rfl (.tmp 34) (.tmp 39) _ _ rfl _ _ rfl rfl _ _ (hrz _) ?_)
    | (at_builtin; refine Go.Proofs.wpList_copy_runI _ rfl (.tmp 43) (.tmp 44) 22 22 rfl _ _ rfl rfl (hcp1 _ _) ?_))
  go_region_law (refine Go.Proofs.step_copy_runI rfl (.tmp 50) (.tmp 53) 22 22 rfl (.slice (some ⟨w.heap.size, (i + 1) * 3, none⟩) (n + 1 - (i + 1)) (G - (i + 1))) (.slice (some ⟨g, i * 3, none⟩) (n - i) (cap - i)) (by simp [Act.eval, Act.put]) (by simp [Act.eval, Act.put]) (hcp2 _ _ _) ?_)
  go_wp2_with fail
  go_ret
  exact ⟨G, rfl, HF.out.1, HF.out.2.1, HF.out.2.2⟩

theorem hsAt_row {w : World} {b : Nat} {h : Hp} (hb : w.heap[b]? = some (.cells (flatH [h]).toArray 57 (0, 0))) : HsAt w w.heap.size (some ⟨b, 0, none⟩) [h] := by
  refine .inr ⟨b, 0, rfl, (Array.getElem?_eq_some_iff.1 hb).1, fun k x hk => ?_⟩
  match k, hk with
  | 0, hk =>
    simp at hk; subst hk
    refine ⟨?_, ?_, ?_⟩ <;> (rw [cell_of_heap hb]; rfl)
  | k + 1, hk => simp at hk

theorem InsRow.own {w w' : World} {B g cap : Nat} {L : List Hp} (h : InsRow w g cap L w') (hB : B ≤ g) (hl : L.length ≤ cap) (hm : cap ≤ maxLen) : OwnH w' B (.slice (some ⟨g, 0, none⟩) L.length cap) L := by
  obtain ⟨cur, h1, h2, h3⟩ := h
  exact ⟨flatH_len L, .inr ⟨g, cap, cur, rfl, hB, h1, hl, hm, h2, h3⟩⟩

/-- What an insertion leaves. -/
def Insd (B : Nat) (w : World) (L' : List Hp) (e : Ending) (w' : World) : Prop := ∃ A c, e = .returned (.slice A L'.length c) ∧ OwnH w' B (.slice A L'.length c) L' ∧ Below B w w'

set_option maxHeartbeats 1000000 in
set_option maxRecDepth 100000 in
theorem insEnd (A : Option Addr) (b c B : Nat) (L : List Hp) (h : Hp) (w : World) (hO : OwnH w B (.slice A L.length c) L) (hB : B ≤ w.heap.size)
    (hb : w.heap[b]? = some (.cells (flatH [h]).toArray 57 (0, 0))) (hs : L.length ≤ 2000000) :
    Calls Try.prog 89 #[.slice A L.length c, .int .i64 L.length, .slice (some ⟨b, 0, none⟩) 1 1] w (Insd B w (L ++ [h])) := by
  have HO := Lib.hid hO
  have HS := Lib.hid (hsAt_row hb)
  clear hO hb
  cases A
  all_goals
    go_enter Try.func89, Try.ntmps89
    go_wp2_with (at_builtin; refine wpList_appendH rfl (.tmp 23) (.tmp 24) rfl HO.out rfl rfl (M := [h]) rfl HS.out (by simp; omega) hB ?_; intro v2 w2 hap; obtain ⟨g2, c2, rfl, hg2B, hg2⟩ := hap.shape (k := 1) rfl Nat.one_pos)
    all_goals
      go_ret
      exact ⟨some ⟨g2, 0, none⟩, c2, by rw [List.length_append]; rfl, by rw [List.length_append]; exact hap.1, hap.below HO.out (Below.refl _ _) hB⟩

theorem insertH_any {A : Option Addr} {b c B i : Nat} {L : List Hp} {h : Hp} {w : World} (hO : OwnH w B (.slice A L.length c) L) (hB : B ≤ w.heap.size) (hi : i ≤ L.length) (hne : (Value.slice A L.length c).ownBlock ≠ some b)
    (hb : w.heap[b]? = some (.cells (flatH [h]).toArray 57 (0, 0))) (hs : L.length ≤ 2000000) :
    Calls Try.prog 89 #[.slice A L.length c, .int .i64 i, .slice (some ⟨b, 0, none⟩) 1 1] w (Insd B w (L.take i ++ h :: L.drop i)) := by
  by_cases he : i = L.length
  · subst he
    rw [List.take_length, List.drop_length]
    exact insEnd A b c B L h w hO hB hb hs
  · have hown := hO
    unfold OwnH at hown
    rcases hown.2 with ⟨e, e'⟩ | ⟨g, cap, cur, e, hbg, hg, hnc, hcm, hcs, htake⟩
    · omega
    · injection e with e1 e2 e3
      subst e1 e3
      have hgb : b ≠ g := fun e => hne (by rw [e]; rfl)
      have hlen : (L.take i ++ h :: L.drop i).length = L.length + 1 := by simp; omega
      unfold Insd
      rw [hlen]
      by_cases hroom : L.length + 1 ≤ c
      · refine (insRoom g b c L.length i cur L h w hg hcs rfl htake (by omega) hroom (by unfold maxLen at hcm; omega) hgb hb hs).mono ?_
        rintro e w' ⟨rfl, hr, hgr⟩
        have ho := hr.own hbg (by omega) hcm
        rw [hlen] at ho
        exact ⟨_, _, rfl, ho, (Below.refl _ _).grown hgr hB (by intro q e; injection e with e; omega)⟩
      · refine (insGrow g b c L.length i cur L h w hg hcs rfl htake (by omega) hnc (by omega) hb hs).mono ?_
        rintro e w' ⟨G, rfl, hG1, hG2, hr, hgr⟩
        have ho := hr.own hB (by omega) hG2
        rw [hlen] at ho
        exact ⟨_, _, rfl, ho, (Below.refl _ _).grown hgr hB (by intro q e; cases e)⟩

end Go.Proofs.Ythdaoadleeelnaa
