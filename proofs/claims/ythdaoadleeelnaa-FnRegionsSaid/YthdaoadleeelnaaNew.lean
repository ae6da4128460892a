/- Facts on a block that a statement has just made. -/
import Derived.Test.YthdaoadleeelnaaNum
namespace Go.Proofs.Ythdaoadleeelnaa
open Go.ChangeShapes Go.WideShapes Go.ChangeAt Go.RowKit
attribute [local go_sem ↓] Go.wp_at_zero Go.wp_at_succ
set_option linter.unusedVariables false

theorem cell_new_at (w : World) (c : Array Value) (t : TypeId) (i : Nat) {v : Value} (h : c[i]? = some v) : (w.alloc (.cells c t)).cell? ⟨w.heap.size, i, none⟩ = some v := by
  rw [World.cell?_alloc_new]; exact h

theorem frozen_new_at (w : World) (c : Array Value) (t : TypeId) (i : Nat) : (w.alloc (.cells c t)).frozen? ⟨w.heap.size, i, none⟩ = false := World.frozen?_alloc_new w c t i

theorem new_lt (w : World) (o : Obj) : w.heap.size < (w.alloc o).heap.size := by rw [World.size_alloc]; omega

theorem cell_new_drew (W : World) (c : Array Value) (t : TypeId) (i : Nat) {v : Value} {n : Nat} (hn : n = W.heap.size) (h : c[i]? = some v) : (W.alloc (.cells c t)).drew.cell? ⟨n, i, none⟩ = some v := by
  subst hn; exact cell_new_at W c t i h

theorem frozen_new_drew (W : World) (c : Array Value) (t : TypeId) (i : Nat) {n : Nat} (hn : n = W.heap.size) : (W.alloc (.cells c t)).drew.frozen? ⟨n, i, none⟩ = false := by
  subst hn; exact frozen_new_at W c t i

end Go.Proofs.Ythdaoadleeelnaa
