/- Join, and the walk of its law. -/
import Derived.Test.YtkcalnahiabejaaDoorJoin
namespace Go.Proofs.YtkcalnahiabejaaDoor
open Go.ChangeShapes Go.WideShapes Go.ChangeAt Go.RowKit
attribute [local go_sem ↓] Go.wp_at_zero Go.wp_at_succ
set_option linter.unusedVariables false

def joinL (ls : List ByteArray) (by_ : ByteArray) : List UInt8 := Lib.join (ls.map (·.data.toList)) by_.data.toList

def joinB (ls : List ByteArray) (by_ : ByteArray) : ByteArray := bs (joinL ls by_)

theorem lens_sizes (ls : List ByteArray) : Lib.lens (ls.map (·.data.toList)) = sizes ls := by
  unfold Lib.lens sizes
  rw [List.map_map]
  congr 1

theorem joinL_len (ls : List ByteArray) (by_ : ByteArray) : (joinL ls by_).length ≤ sizes ls + ls.length * by_.size := by
  unfold joinL
  cases ls with
  | nil => simp [Lib.join_nil]
  | cons x r =>
    rw [List.map_cons, Lib.join_cons, List.length_append, Lib.joinTail_length, lens_sizes]
    have h1 : x.data.toList.length = x.size := by simp
    have h2 : by_.data.toList.length = by_.size := by simp
    rw [h1, h2, List.length_map]
    have : sizes (x :: r) = x.size + sizes r := by simp [sizes]
    rw [this, List.length_cons, Nat.succ_mul, Nat.mul_comm]
    omega

theorem joinL_first {ls : List ByteArray} (by_ : ByteArray) (h : 0 < ls.length) : joinL (ls.take 1) by_ = ls[0].data.toList := by
  cases ls with
  | nil => simp at h
  | cons x r => simp [joinL, Lib.join_one]

theorem joinL_snoc {ls : List ByteArray} (by_ : ByteArray) {k : Nat} (h0 : 0 < k) (hk : k < ls.length) : joinL (ls.take (k + 1)) by_ = joinL (ls.take k) by_ ++ by_.data.toList ++ ls[k].data.toList := by
  cases ls with
  | nil => simp at hk
  | cons x r =>
    obtain ⟨j, rfl⟩ : ∃ j, k = j + 1 := ⟨k - 1, by omega⟩
    have hj : j < r.length := by simpa using hk
    unfold joinL
    simp only [List.take_succ_cons, List.map_cons]
    rw [Lib.join_cons, Lib.join_cons, List.map_take, List.map_take, Lib.joinTail_take_succ _ _ j r[j].data.toList (by simp [hj])]
    simp

theorem joinB_step0 {ls : List ByteArray} {by_ q : ByteArray} (h0 : 0 < ls.length) (hq : q = joinB (ls.take 0) by_) : q ++ ls[0] = joinB (ls.take (0 + 1)) by_ := by
  subst hq
  unfold joinB
  rw [Nat.zero_add, joinL_first by_ h0, bs_data]
  show bs [] ++ ls[0] = ls[0]
  rw [← bs_data ls[0], bs_append]; simp

theorem joinB_step {ls : List ByteArray} {by_ q : ByteArray} {k : Nat} (h0 : 0 < k) (hk : k < ls.length) (hq : q = joinB (ls.take k) by_) : q ++ by_ ++ ls[k] = joinB (ls.take (k + 1)) by_ := by
  subst hq
  unfold joinB
  rw [joinL_snoc by_ h0 hk, ← bs_append, ← bs_append, bs_data, bs_data]

theorem joinB_size {ls : List ByteArray} {by_ : ByteArray} {k : Nat} (hs : sizes ls ≤ 1048576) (hn : ls.length ≤ 1048576) (hb : by_.size ≤ 1048576) : (joinB (ls.take k) by_).size ≤ 1099512676352 := by
  unfold joinB
  rw [bs_size]
  have h1 := joinL_len (ls.take k) by_
  have h2 := sizes_take_le ls k
  have h3 : (ls.take k).length ≤ 1048576 := by rw [List.length_take]; omega
  have h4 : (ls.take k).length * by_.size ≤ 1048576 * 1048576 := Nat.mul_le_mul h3 hb
  omega

set_option maxHeartbeats 1000000 in
set_option maxRecDepth 100000 in
theorem iJoin_any (g n c : Nat) (ls : List ByteArray) (by_ : ByteArray) (w : World) (hO : OwnS w 0 (.slice (some ⟨g, 0, none⟩) n c) ls) (hs : sizes ls ≤ 1048576) (hl : n ≤ 1048576) (hb : by_.size ≤ 1048576) :
    Calls Tryd.prog 18 #[.slice (some ⟨g, 0, none⟩) n c, .string by_] w fun e w' => e = .returned (.string (joinB ls by_)) ∧ Below w.heap.size w w' := by
  have hn : n = ls.length := hO.reads.1
  subst hn
  have hj : (Lib.join (ls.map (·.data.toList)) by_.data.toList).length ≤ 140737488355328 := by
    have h1 := joinL_len ls by_
    have h4 : ls.length * by_.size ≤ 1048576 * 1048576 := Nat.mul_le_mul hl hb
    unfold joinL at h1
    omega
  rcases hO.shape with ⟨e, _⟩ | ⟨g', c', e, _, hg, hc⟩
  · injection e with e; cases e
  · injection e with e1 _ e3
    injection e1 with e1
    injection e1 with e1
    subst e1 e3
    have hcells : ∀ (j : Nat) x, ls[j]? = some x → w.cell? ⟨g, 0 + j, none⟩ = some (.string x) := by
      intro j x hx
      rw [Nat.zero_add]
      have hj' : j < ls.length := by
        rcases Nat.lt_or_ge j ls.length with h | h
        · exact h
        · rw [List.getElem?_eq_none h] at hx; cases hx
      unfold OwnS at hO
      exact (hO.cellAt j (by omega)).trans (strV_get hx)
    have HC := Lib.hid hcells
    have HJ := Lib.hid hj
    clear hcells hj hO
    go_enter Tryd.func18, Tryd.ntmps18
    go_wp2_with fail
    go_at_call 32; refine (Tryd.strings_Join g 0 c ls by_ w HC.out hg (by omega) hc HJ.out).mono ?_; rintro e w1 ⟨rfl, hb1⟩
    go_wp2_with fail
    go_ret
    exact ⟨rfl, hb1⟩

end Go.Proofs.YtkcalnahiabejaaDoor
