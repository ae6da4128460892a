/- SameRegion, of the program and of the reference. -/
import Derived.Test.YthdaoadleeelnaaReg2
namespace Go.Proofs.Ythdaoadleeelnaa
open Go.ChangeShapes Go.WideShapes Go.ChangeAt Go.RowKit
attribute [local go_sem ↓] Go.wp_at_zero Go.wp_at_succ
set_option linter.unusedVariables false

set_option maxHeartbeats 400000 in
theorem iSameRegion_any (A A' : Option Addr) (n n' c c' : Nat) (hs hs' : List Hp) (w : World) (hn : n = hs.length) (hn' : n' = hs'.length) (hA : HsAt w w.heap.size A hs) (hA' : HsAt w w.heap.size A' hs') (hm : n ≤ 4611686018427387904) (hm' : n' ≤ 4611686018427387904) :
    Calls Try.prog 23 #[.agg #[.slice A n c], .agg #[.slice A' n' c']] w fun e w' => e = .returned (.bool (decide (hs = hs'))) ∧ Below w.heap.size w w' := by
  have HA := Lib.hid hA; clear hA
  have HA' := Lib.hid hA'; clear hA'
  have HN := Lib.hid (And.intro hn hn'); clear hn hn'
  go_enter Try.func23, Try.ntmps23
  go_wp2_with fail
  go_at_call 44; refine (slicesEqual_any _ _ _ _ _ _ hs hs' _ HN.out.1 HN.out.2 (HA.out.step (((Below.refl _ _).alloc (Nat.le_refl _) _).alloc (Nat.le_of_lt (new_lt _ _)) _)) (HA'.out.step (((Below.refl _ _).alloc (Nat.le_refl _) _).alloc (Nat.le_of_lt (new_lt _ _)) _)) hm hm').mono ?_; rintro e w1 ⟨rfl, hb⟩
  have hS : Below w.heap.size w w1 := S_below hb (by repeat (first | exact Below.refl _ _ | assumption | refine below_drewN ?_ _ | refine Below.drew ?_ | refine Below.alloc ?_ (by first | omega | (simp <;> omega)) _ | refine Below.setCell ?_ (by first | omega | (simp <;> omega)) _)) (by simp; omega)
  clear hb
  go_wp2_with fail
  go_ret
  exact ⟨rfl, hS⟩

set_option maxHeartbeats 1000000 in
theorem sSameRegion_any (A A' : Option Addr) (n n' c c' : Nat) (hs hs' : List Hp) (w : World) (hn : n = hs.length) (hn' : n' = hs'.length) (hA : HsAt w w.heap.size A hs) (hA' : HsAt w w.heap.size A' hs') (hm : n ≤ 4611686018427387904) (hm' : n' ≤ 4611686018427387904) :
    Calls Try.prog 22 #[.agg #[.slice A n c], .agg #[.slice A' n' c']] w fun e w' => e = .returned (.bool (decide (hs = hs'))) ∧ Below w.heap.size w w' := by
  have HA := Lib.hid hA; clear hA
  have HA' := Lib.hid hA'; clear hA'
  by_cases he : n = n'
  · subst he
    have HN := Lib.hid hn; clear hn
    have HN' := Lib.hid hn'; clear hn'
    go_enter Try.func22, Try.ntmps22
    go_wp2_with fail
    go_loopw [17] (fun i wr => ∃ k : Nat, k ≤ n ∧ i = .int .i64 k ∧ RowKit.Hid (hs.take k = hs'.take k) ∧ wr.cell? ⟨w.heap.size + 1, 0, none⟩ = some (.slice A' n c') ∧ w.heap.size + 1 + 1 ≤ wr.heap.size ∧ Below w.heap.size w wr) (fun i _ => n - (intOf i).toNat)
    case atStart => exact ⟨0, Nat.zero_le _, rfl, rfl, by first | (go_simp; done) | (simp; done), by simp, (by repeat (first | exact Below.refl _ _ | assumption | refine below_drewN ?_ _ | refine Below.drew ?_ | refine Below.alloc ?_ (by first | omega | (simp <;> omega)) _ | refine Below.setCell ?_ (by first | omega | (simp <;> omega)) _))⟩
    case round =>
      obtain ⟨k, hk, rfl, HE, hc', hz, hb⟩ := hrel
      by_cases hlt : k < n
      · have hl1 : k < hs.length := by have := HN.out; omega
        have hl2 : k < hs'.length := by have := HN'.out; omega
        obtain ⟨b, off, rfl, hlb, c0, c1, c2⟩ := (HA.out.below hb).at_ hl1
        obtain ⟨b', off', rfl, hlb', d0, d1, d2⟩ := (HA'.out.below hb).at_ hl2
        have n1 : ¬ w.heap.size + 1 = wr.heap.size := by omega
        have n2 : ¬ wr.heap.size = w.heap.size + 1 := by omega
        have n3 : ¬ b' = wr.heap.size := by omega
        have n4 : ¬ wr.heap.size = b' := by omega
        have n5 : ¬ b = wr.heap.size := by omega
        have n6 : ¬ wr.heap.size = b := by omega
        have n7 : ∀ o : Obj, (wr.alloc o).cell? ⟨w.heap.size + 1, 0, none⟩ = some (.slice (some ⟨b', off', none⟩) n c') := fun o => (World.cell?_alloc_lt wr o ⟨w.heap.size + 1, 0, none⟩ (by simp; omega)).trans hc'
        have hx : hs[k] = hs'[k] → RowKit.Hid (hs.take (k + 1) = hs'.take (k + 1)) := fun e => take_step HE.out hl1 hl2 e
        have hy : ¬ hs[k] = hs'[k] → RowKit.Hid (decide (hs = hs') = false) := fun e => by
          refine decide_eq_false (fun h => e ?_); subst h; rfl
        generalize hs[k] = x at *
        generalize hs'[k] = y at *
        obtain ⟨x0, x1, x2⟩ := x
        obtain ⟨y0, y1, y2⟩ := y
        simp only at c0 c1 c2 d0 d1 d2
        have f0 : ∀ o : Obj, (wr.alloc o).cell? ⟨b', off' + k * 3, none⟩ = some (.int .i64 y0) := fun o => (World.cell?_alloc_lt wr o ⟨b', off' + k * 3, none⟩ (by simp; omega)).trans d0
        have f1 : ∀ o : Obj, (wr.alloc o).cell? ⟨b', off' + k * 3 + 1, none⟩ = some (.int .i64 y1) := fun o => (World.cell?_alloc_lt wr o ⟨b', off' + k * 3 + 1, none⟩ (by simp; omega)).trans d1
        have f2 : ∀ o : Obj, (wr.alloc o).cell? ⟨b', off' + k * 3 + 2, none⟩ = some (.int .i64 y2) := fun o => (World.cell?_alloc_lt wr o ⟨b', off' + k * 3 + 2, none⟩ (by simp; omega)).trans d2
        by_cases e0 : x0 = y0
        · by_cases e1 : x1 = y1
          · by_cases e2 : x2 = y2
            · subst e0 e1 e2
              have HF := hx rfl
              clear hx hy
              go_wp2_with fail
              go_quiet (fail)
              go_wp2_with fail
              go_roundw
              case rel => exact ⟨k + 1, by omega, by go_num, HF, by first | (go_simp; done) | (simp; done), by first | omega | (simp; omega), (by repeat (first | exact Below.refl _ _ | assumption | refine below_drewN ?_ _ | refine Below.drew ?_ | refine Below.alloc ?_ (by first | omega | (simp <;> omega)) _ | refine Below.setCell ?_ (by first | omega | (simp <;> omega)) _))⟩
              case measure => simp [intOf]; omega
            · subst e0 e1
              have HF := hy (fun e => e2 (by injection e with _ e; injection e))
              clear hx hy
              go_wp2_with fail
              go_quiet (fail)
              go_wp2_with fail
              go_ret
              exact ⟨ret_bool HF.out.symm, (by repeat (first | exact Below.refl _ _ | assumption | refine below_drewN ?_ _ | refine Below.drew ?_ | refine Below.alloc ?_ (by first | omega | (simp <;> omega)) _ | refine Below.setCell ?_ (by first | omega | (simp <;> omega)) _))⟩
          · subst e0
            have HF := hy (fun e => e1 (by injection e with _ e; injection e))
            clear hx hy
            go_wp2_with fail
            go_quiet (fail)
            go_wp2_with fail
            go_ret
            exact ⟨ret_bool HF.out.symm, (by repeat (first | exact Below.refl _ _ | assumption | refine below_drewN ?_ _ | refine Below.drew ?_ | refine Below.alloc ?_ (by first | omega | (simp <;> omega)) _ | refine Below.setCell ?_ (by first | omega | (simp <;> omega)) _))⟩
        · have HF := hy (fun e => e0 (by injection e))
          clear hx hy
          go_wp2_with fail
          go_quiet (fail)
          go_wp2_with fail
          go_ret
          exact ⟨ret_bool HF.out.symm, (by repeat (first | exact Below.refl _ _ | assumption | refine below_drewN ?_ _ | refine Below.drew ?_ | refine Below.alloc ?_ (by first | omega | (simp <;> omega)) _ | refine Below.setCell ?_ (by first | omega | (simp <;> omega)) _))⟩
      · have HF := Lib.hid (show decide (hs = hs') = true by
          refine decide_eq_true ?_
          have e := HE.out
          rwa [List.take_of_length_le (by have := HN.out; omega), List.take_of_length_le (by have := HN'.out; omega)] at e)
        go_wp2_with fail
        go_ret
        exact ⟨ret_bool HF.out.symm, hb⟩
  · have HF := Lib.hid (show decide (hs = hs') = false by
      refine decide_eq_false (fun h => he ?_); subst h; omega)
    clear hn hn'
    go_enter Try.func22, Try.ntmps22
    go_wp2
    go_ret
    exact ⟨ret_bool HF.out.symm, (by repeat (first | exact Below.refl _ _ | assumption | refine below_drewN ?_ _ | refine Below.drew ?_ | refine Below.alloc ?_ (by first | omega | (simp <;> omega)) _ | refine Below.setCell ?_ (by first | omega | (simp <;> omega)) _))⟩

end Go.Proofs.Ythdaoadleeelnaa
