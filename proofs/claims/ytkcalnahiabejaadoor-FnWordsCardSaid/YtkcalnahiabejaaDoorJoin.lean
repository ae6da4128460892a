/- Join, of the program and of the reference, and what the law does with its slices. -/
import Derived.Test.YtkcalnahiabejaaDoorSplW
import Derived.Lib.Join
namespace Go.Proofs.YtkcalnahiabejaaDoor
open Go.ChangeShapes Go.WideShapes Go.ChangeAt Go.RowKit
attribute [local go_sem ↓] Go.wp_at_zero Go.wp_at_succ
set_option linter.unusedVariables false

def sizes (ls : List ByteArray) : Nat := (ls.map (·.size)).sum

theorem sizes_take_succ {ls : List ByteArray} {k : Nat} (h : k < ls.length) : sizes (ls.take (k + 1)) = sizes (ls.take k) + ls[k].size := by
  unfold sizes
  rw [List.take_succ_eq_append_getElem h, List.map_append, List.sum_append]
  simp

theorem sizes_take_le (ls : List ByteArray) (k : Nat) : sizes (ls.take k) ≤ sizes ls := by
  induction ls generalizing k with
  | nil => simp
  | cons x r ih =>
    cases k with
    | zero => simp [sizes]
    | succ k => have := ih k; simp only [sizes, List.take_succ_cons, List.map_cons, List.sum_cons] at this ⊢; omega

def leftS (q : Int) (ls : List ByteArray) : Int := if q < ls.length + sizes ls then -1 else q - ls.length - sizes ls

theorem zeros_strs (n : Nat) : (madeCells #[Value.string ByteArray.empty] n).toList = strV (List.replicate n ByteArray.empty) := by
  unfold strV
  rw [List.map_replicate, List.eq_replicate_iff]
  refine ⟨by simp [size_madeCells], fun v hv => ?_⟩
  unfold madeCells at hv
  simp only [Array.toList_map, List.mem_map] at hv
  obtain ⟨i, _, rfl⟩ := hv
  show (#[Value.string ByteArray.empty] : Array Value)[i % 1]! = _
  rw [Nat.mod_one]; rfl

theorem take_set_stepS {ls ls' : List ByteArray} {k : Nat} (hl : ls'.length = ls.length) (h : ls'.take k = ls.take k) (hk : k < ls.length) : (ls'.set k ls[k]).take (k + 1) = ls.take (k + 1) := by
  rw [List.take_succ_eq_append_getElem (by simpa [hl] using hk), List.take_succ_eq_append_getElem hk]
  rw [List.take_set_of_le (by omega), h]
  simp

end Go.Proofs.YtkcalnahiabejaaDoor
