/- A quicker check of the lexical order of a large region. -/
import Derived.Test.YtkmfejdmdiemaaaDoorQb
namespace Go.Proofs.YtkmfejdmdiemaaaDoor
open Go.RowKit Go.Sort

def stepOk (ops : Array Oper) (i : Nat) (o : Oper) (r : List Oper) : Bool :=
  (o.after.all fun e => !Region.binds .any e || decide (e.on < i)) && (r.all fun oj => oj.after.any (fun e => Region.binds .any e && e.on == i) || o.apart ops oj)

def fastL (ops : Array Oper) : Nat → List Oper → Bool
  | _, [] => true
  | i, o :: r => stepOk ops i o r && fastL ops (i + 1) r

theorem fastL_at (ops : Array Oper) : ∀ (l : List Oper) (i : Nat), fastL ops i l = true → ∀ (j : Nat) (o : Oper), l[j]? = some o → stepOk ops (i + j) o (l.drop (j + 1)) = true
  | [], _, _, j, o, h => by simp at h
  | x :: r, i, hf, 0, o, h => by
    rw [fastL, Bool.and_eq_true] at hf
    simp at h
    subst h
    simpa using hf.1
  | x :: r, i, hf, j + 1, o, h => by
    rw [fastL, Bool.and_eq_true] at hf
    have := fastL_at ops r (i + 1) hf.2 j o (by simpa using h)
    rw [show i + (j + 1) = i + 1 + j by omega]
    simpa using this

theorem lexFrom_of (ops : Array Oper) (hf : fastL ops 0 ops.toList = true) : ∀ (fuel k : Nat) (listed : Array Bool), k + fuel = ops.size → listed.size = ops.size → (∀ j, j < ops.size → listed[j]? = some (decide (j < k))) → Region.lexFrom .any ops fuel k listed = true
  | 0, k, listed, hk, hs, hl => by
    rw [Region.lexFrom]
    unfold Region.ready
    rw [List.isEmpty_iff, List.filter_eq_nil_iff]
    intro j hj
    rw [List.mem_range] at hj
    have := hl j hj
    simp [Array.getD_eq_getD_getElem?, this]
    intro h
    omega
  | fuel + 1, k, listed, hk, hs, hl => by
    have hks : k < ops.size := by omega
    have hstep := fastL_at ops ops.toList 0 hf k ops[k] (by simp [hks])
    rw [Nat.zero_add] at hstep
    unfold stepOk at hstep
    rw [Bool.and_eq_true] at hstep
    rw [Region.lexFrom, Bool.and_eq_true, Bool.and_eq_true]
    refine ⟨⟨?_, ?_⟩, ?_⟩
    · unfold Region.ready
      rw [List.contains_iff_mem, List.mem_filter, List.mem_range]
      refine ⟨hks, ?_⟩
      rw [Array.getD_eq_getD_getElem?, hl k hks, Array.getElem?_eq_getElem hks]
      simp only [Option.getD_some, Option.map_some, Bool.and_eq_true]
      refine ⟨by simp, ?_⟩
      rw [Array.all_eq_true_iff_forall_mem]
      intro e he
      have := (Array.all_eq_true_iff_forall_mem.1 hstep.1) e he
      cases hb : Region.binds .any e with
      | false => rfl
      | true =>
        rw [hb] at this
        have hlt : e.on < k := by simpa using this
        rw [Array.getD_eq_getD_getElem?, hl e.on (by omega)]
        simp [hlt]
    · unfold Region.free
      rw [Array.getElem?_eq_getElem hks]
      simp only []
      rw [List.all_eq_true]
      intro j hj
      rw [List.mem_range] at hj
      rw [Array.getD_eq_getD_getElem?, hl j hj, Array.getElem?_eq_getElem hj]
      rcases Nat.lt_trichotomy j k with h | h | h
      · simp [h]
      · simp [h]
      · have hm : ops[j] ∈ ops.toList.drop (k + 1) := by
          rw [List.mem_iff_getElem?]
          exact ⟨j - (k + 1), by rw [List.getElem?_drop, show k + 1 + (j - (k + 1)) = j by omega]; simp [hj]⟩
        have := (List.all_eq_true.1 hstep.2) _ hm
        simp only []
        rw [this]
        simp
    · refine lexFrom_of ops hf fuel (k + 1) _ (by omega) (by simpa using hs) (fun j hj => ?_)
      rw [Array.getElem?_setIfInBounds]
      by_cases h : k = j
      · subst h
        rw [if_pos rfl, if_pos (by omega)]
        simp
      · rw [if_neg h, hl j hj]
        congr 1
        rw [decide_eq_decide]
        omega

theorem lexB_fast {l : List Oper} (hn : Region.noSelect l.toArray = true) (hf : fastL l.toArray 0 l = true) : Region.lexB .any l.toArray = true := by
  unfold Region.lexB
  rw [hn, Bool.true_and]
  refine lexFrom_of _ (by simpa using hf) _ 0 _ (by simp) (by simp) (fun j hj => ?_)
  rw [Array.getElem?_replicate, if_pos hj]
  simp

theorem wp_region_qb' {P : Program} {id : Nat} {Q : Exit → Act → World → Prop} {a : Act} {w : World} {l : List Oper} (hm : P.follows .mixedOrders = true) (hn : Region.noSelect l.toArray = true) (hf : fastL l.toArray 0 l = true)
    (h : ∀ W : World, Hid (W = w) → wpQuiet P l.toArray (fun w' => ∃ p : Regrown, w' = grow (redrawn W p.d) p.os) (fun a' => ∀ w', (∃ p : Regrown, w' = grow (redrawn W p.d) p.os) → Q .normal a' w') l a) : (Code.region id l.toArray true).wp P Q a w :=
  wp_region_qb hm (lexB_fast hn hf) h

end Go.Proofs.YtkmfejdmdiemaaaDoor
