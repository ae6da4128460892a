/- leavesRoom of the program. -/
import Derived.Test.YthdaoadleeelnaaHalf5
import Derived.Test.YthdaoadleeelnaaQb
namespace Go.Proofs.Ythdaoadleeelnaa
open Go.ChangeShapes Go.WideShapes Go.ChangeAt Go.RowKit
attribute [local go_sem ↓] Go.wp_at_zero Go.wp_at_succ
set_option linter.unusedVariables false

theorem size_lit {a b c v : Int} (h : szV a b = v) (w : World) (h1 : -50000 ≤ a) (h2 : a ≤ 50000) (h3 : -50000 ≤ b) (h4 : b ≤ 50000) :
    Calls Try.prog 101 #[.agg #[.int .i64 a, .int .i64 b, .int .i64 c]] w fun e w' => e = .returned (.int .i64 v) ∧ Below w.heap.size w w' := by
  subst h; exact size_any a b c w h1 h2 h3 h4

set_option maxHeartbeats 1000000 in
set_option maxRecDepth 100000 in
theorem leavesRoom_any {a b c a' b' c' u v : Int} (hu : szV a b = u) (hv : szV a' b' = v) (k1 : halfOkV a b c = true) (k2 : halfOkV a' b' c' = true) (u1 : 0 ≤ u) (u2 : u ≤ 50000) (v1 : 0 ≤ v) (v2 : v ≤ 50000) (w : World) :
    Calls Try.prog 92 #[.agg #[.int .i64 a, .int .i64 b, .int .i64 c], .agg #[.int .i64 a', .int .i64 b', .int .i64 c']] w fun e w' => e = .returned (.bool (decide (0 < c * v + c' * u))) ∧ Below w.heap.size w w' := by
  obtain ⟨⟨a1, a2⟩, ⟨b1, b2⟩, c1, c2⟩ := halfOkV_bounds k1
  obtain ⟨⟨a1', a2'⟩, ⟨b1', b2'⟩, c1', c2'⟩ := halfOkV_bounds k2
  clear k1 k2
  have HU := Lib.hid hu; clear hu
  have HV := Lib.hid hv; clear hv
  have m1 := mul_range c v 100000000 50000 (by omega) (by omega) (by omega) (by omega)
  have m2 := mul_range c' u 100000000 50000 (by omega) (by omega) (by omega) (by omega)
  have w1 : IntKind.i64.wrap (c * v) = c * v := IntWalk.i64_in _ (by omega)
  have w2 : IntKind.i64.wrap (c' * u) = c' * u := IntWalk.i64_in _ (by omega)
  have w3 : IntKind.i64.wrap (c * v + c' * u) = c * v + c' * u := IntWalk.i64_in _ (by omega)
  go_enter Try.func92, Try.ntmps92
  go_wp2_with fail
  try simp only [List.append_eq, List.cons_append, List.nil_append]
  refine wp_region_qb (by kernel_rfl) (by kernel_rfl) (fun W_q hW_q => ?_)
  have kq0 : ∀ d_ os_, (Sort.grow (redrawn W_q d_) os_).cell? ⟨w.heap.size, 0, none⟩ = some (.int .i64 a) := fun d_ os_ => cell_regrown (by rw [hW_q.out]; first | assumption | (go_keep; done) | (go_simp; done) | (simp; done)) d_ os_
  have kq1 : ∀ d_ os_, (Sort.grow (redrawn W_q d_) os_).cell? ⟨w.heap.size, 1, none⟩ = some (.int .i64 b) := fun d_ os_ => cell_regrown (by rw [hW_q.out]; first | assumption | (go_keep; done) | (go_simp; done) | (simp; done)) d_ os_
  have kq2 : ∀ d_ os_, (Sort.grow (redrawn W_q d_) os_).cell? ⟨w.heap.size, 2, none⟩ = some (.int .i64 c) := fun d_ os_ => cell_regrown (by rw [hW_q.out]; first | assumption | (go_keep; done) | (go_simp; done) | (simp; done)) d_ os_
  have kq3 : ∀ d_ os_, (Sort.grow (redrawn W_q d_) os_).cell? ⟨w.heap.size + 1, 0, none⟩ = some (.int .i64 a') := fun d_ os_ => cell_regrown (by rw [hW_q.out]; first | assumption | (go_keep; done) | (go_simp; done) | (simp; done)) d_ os_
  have kq4 : ∀ d_ os_, (Sort.grow (redrawn W_q d_) os_).cell? ⟨w.heap.size + 1, 1, none⟩ = some (.int .i64 b') := fun d_ os_ => cell_regrown (by rw [hW_q.out]; first | assumption | (go_keep; done) | (go_simp; done) | (simp; done)) d_ os_
  have kq5 : ∀ d_ os_, (Sort.grow (redrawn W_q d_) os_).cell? ⟨w.heap.size + 1, 2, none⟩ = some (.int .i64 c') := fun d_ os_ => cell_regrown (by rw [hW_q.out]; first | assumption | (go_keep; done) | (go_simp; done) | (simp; done)) d_ os_
  repeat (go_big_quiet_step (first | (go_at_call 101; with_reducible exact Calls.regrown_of (size_lit HU.out _ (by omega) (by omega) (by omega) (by omega))) | (go_at_call 101; with_reducible exact Calls.regrown_of (size_lit HV.out _ (by omega) (by omega) (by omega) (by omega)))))
  refine wpQuiet_nil ?_
  intro _ hw_q
  obtain ⟨⟨dq_, osq_⟩, hw_q⟩ := hw_q
  subst hw_q
  have hb1 := below_regrown W_q dq_ osq_
  clear kq0 kq1 kq2 kq3 kq4 kq5
  generalize Sort.grow (redrawn W_q dq_) osq_ = wi at *
  have hW_q := hW_q.out
  subst hW_q
  have cc_wi0 := cell_keep (p := ⟨w.heap.size, 0, none⟩) (v := .int .i64 a) hb1 (by first | assumption | (go_keep; done) | (go_simp; done) | (simp; done)) (by first | omega | (simp <;> omega))
  have cc_wi1 := cell_keep (p := ⟨w.heap.size, 1, none⟩) (v := .int .i64 b) hb1 (by first | assumption | (go_keep; done) | (go_simp; done) | (simp; done)) (by first | omega | (simp <;> omega))
  have cc_wi2 := cell_keep (p := ⟨w.heap.size, 2, none⟩) (v := .int .i64 c) hb1 (by first | assumption | (go_keep; done) | (go_simp; done) | (simp; done)) (by first | omega | (simp <;> omega))
  have cc_wi3 := cell_keep (p := ⟨w.heap.size + 1, 0, none⟩) (v := .int .i64 a') hb1 (by first | assumption | (go_keep; done) | (go_simp; done) | (simp; done)) (by first | omega | (simp <;> omega))
  have cc_wi4 := cell_keep (p := ⟨w.heap.size + 1, 1, none⟩) (v := .int .i64 b') hb1 (by first | assumption | (go_keep; done) | (go_simp; done) | (simp; done)) (by first | omega | (simp <;> omega))
  have cc_wi5 := cell_keep (p := ⟨w.heap.size + 1, 2, none⟩) (v := .int .i64 c') hb1 (by first | assumption | (go_keep; done) | (go_simp; done) | (simp; done)) (by first | omega | (simp <;> omega))
  have hS1_wi : Below w.heap.size w wi := S_below hb1 (by repeat (first | exact Below.refl _ _ | assumption | refine below_drewN ?_ _ | refine Below.drew ?_ | refine Below.alloc ?_ (by first | omega | (simp <;> omega)) _ | refine Below.setCell ?_ (by first | omega | (simp <;> omega)) _)) (by first | omega | (simp <;> omega))
  have hz1_wi : w.heap.size + 1 + 1 ≤ wi.heap.size := S_size hb1 (by first | omega | (simp <;> omega))
  have hqb_wi0 : w.heap.size < wi.heap.size := S_lt hb1 (by first | omega | (simp <;> omega))
  have hqb_wi1 : w.heap.size + 1 < wi.heap.size := S_lt hb1 (by first | omega | (simp <;> omega))
  clear hb1
  go_wp2_with fail
  go_ret
  exact ⟨by first | rfl | simp, (by repeat (first | exact Below.refl _ _ | assumption | refine below_drewN ?_ _ | refine Below.drew ?_ | refine Below.alloc ?_ (by first | omega | (simp <;> omega)) _ | refine Below.setCell ?_ (by first | omega | (simp <;> omega)) _))⟩

end Go.Proofs.Ythdaoadleeelnaa
