/- l05Has of the reference: does a spot lie in all half planes of a region? -/
import Derived.Test.YthdaoadleeelnaaRn6
namespace Go.Proofs.Ythdaoadleeelnaa
open Go.ChangeShapes Go.WideShapes Go.ChangeAt Go.RowKit
attribute [local go_sem ↓] Go.wp_at_zero Go.wp_at_succ
set_option linter.unusedVariables false

theorem l04Side_is {a b c x y d n : Int} (h : sideV a b c x y d = n) (w : World) (h1 : halfOkV a b c = true) (h2 : spotOkV x y d = true) :
    Calls Try.prog 71 #[.agg #[.int .i64 a, .int .i64 b, .int .i64 c], .agg #[.int .i64 x, .int .i64 y, .int .i64 d]] w fun e w' => e = .returned (.int .i64 n) ∧ Below w.heap.size w w' := by
  have e : sideV a b c x y d = sgnV (a * x + b * y - c * d) := by unfold sideV; rw [h1, h2]; rfl
  rw [← h, e]; exact l04Side_any a b c x y d w h1 h2

set_option maxHeartbeats 1000000 in
set_option maxRecDepth 100000 in
theorem l05Has_any (A : Option Addr) (n c : Nat) (hs : List Hp) (x y d : Int) (w : World) (hn : n = hs.length) (hA : HsAt w w.heap.size A hs) (hm : n ≤ 1048576) (hok : ∀ h ∈ hs, okH h = true) (hs2 : spotOkV x y d = true) :
    Calls Try.prog 54 #[.agg #[.slice A n c], .agg #[.int .i64 x, .int .i64 y, .int .i64 d]] w fun e w' => e = .returned (.bool (holdsR hs x y d)) ∧ Below w.heap.size w w' := by
  have HA := Lib.hid hA; clear hA
  have HN := Lib.hid hn; clear hn
  have HK := Lib.hid hok; clear hok
  have HSp := Lib.hid hs2; clear hs2
  go_enter Try.func54, Try.ntmps54
  go_wp2_with fail
  go_loopw [10] (fun i wr => ∃ k : Nat, k ≤ n ∧ i = .int .i64 k ∧ RowKit.Hid ((hs.take k).all (sideIn x y d) = true) ∧ wr.cell? ⟨w.heap.size, 0, none⟩ = some (.slice A n c) ∧ wr.cell? ⟨w.heap.size + 1, 0, none⟩ = some (.int .i64 x) ∧ wr.cell? ⟨w.heap.size + 1, 1, none⟩ = some (.int .i64 y) ∧ wr.cell? ⟨w.heap.size + 1, 2, none⟩ = some (.int .i64 d) ∧ w.heap.size + 1 + 1 ≤ wr.heap.size ∧ Below w.heap.size w wr) (fun i _ => n - (intOf i).toNat)
  case atStart => exact ⟨0, Nat.zero_le _, rfl, (rfl : List.all [] (sideIn x y d) = true), by first | (go_simp; done) | (simp; done), by first | (go_simp; done) | (simp; done), by first | (go_simp; done) | (simp; done), by first | (go_simp; done) | (simp; done), by simp, (by repeat (first | exact Below.refl _ _ | assumption | refine below_drewN ?_ _ | refine Below.drew ?_ | refine Below.alloc ?_ (by first | omega | (simp <;> omega)) _ | refine Below.setCell ?_ (by first | omega | (simp <;> omega)) _))⟩
  case round =>
    obtain ⟨k, hk, rfl, HE, q0, p0, p1, p2, hz, hb⟩ := hrel
    by_cases hlt : k < n
    · have hl1 : k < hs.length := by have := HN.out; omega
      obtain ⟨b, off, rfl, hlb, c0, c1, c2⟩ := (HA.out.below hb).at_ hl1
      have hlb' : b < wr.heap.size := by omega
      have n1 : ¬ w.heap.size + 1 = wr.heap.size := by omega
      have n2 : ¬ wr.heap.size = w.heap.size + 1 := by omega
      have g0 : ∀ o : Obj, (wr.alloc o).cell? ⟨w.heap.size + 1, 0, none⟩ = some (.int .i64 x) := fun o => (World.cell?_alloc_lt wr o ⟨w.heap.size + 1, 0, none⟩ (by simp; omega)).trans p0
      have g1 : ∀ o : Obj, (wr.alloc o).cell? ⟨w.heap.size + 1, 1, none⟩ = some (.int .i64 y) := fun o => (World.cell?_alloc_lt wr o ⟨w.heap.size + 1, 1, none⟩ (by simp; omega)).trans p1
      have g2 : ∀ o : Obj, (wr.alloc o).cell? ⟨w.heap.size + 1, 2, none⟩ = some (.int .i64 d) := fun o => (World.cell?_alloc_lt wr o ⟨w.heap.size + 1, 2, none⟩ (by simp; omega)).trans p2
      have hk2 := HK.out _ (List.getElem_mem hl1)
      cases ho : sideIn x y d hs[k]
      · have HV := Lib.hid (show holdsR hs x y d = false by unfold holdsR; rw [ing_not hl1 ho]; rfl)
        unfold sideIn at ho
        unfold okH at hk2
        generalize hs[k] = h at *
        obtain ⟨h0, h1, h2⟩ := h
        simp only at c0 c1 c2 ho hk2
        have HH := Lib.hid hk2; clear hk2
        obtain ⟨v, hv⟩ : ∃ v, sideV h0 h1 h2 x y d = v := ⟨_, rfl⟩
        rw [hv] at ho
        have hpos : 0 < v := by simpa using ho
        have HO := Lib.hid hv; clear hv ho
        go_wp2_with fail
        go_at_call 71; (with_reducible refine (l04Side_is HO.out _ HH.out HSp.out).mono ?_); rintro e w1 ⟨rfl, hb1⟩
        have hS1 : Below w.heap.size w w1 := S_below hb1 (by repeat (first | exact Below.refl _ _ | assumption | refine below_drewN ?_ _ | refine Below.drew ?_ | refine Below.alloc ?_ (by first | omega | (simp <;> omega)) _ | refine Below.setCell ?_ (by first | omega | (simp <;> omega)) _)) (by first | omega | (simp <;> omega))
        clear hb1
        go_wp2_with fail
        go_ret
        exact ⟨ret_bool HV.out.symm, hS1⟩
      · have HV := Lib.hid (ing_step HE.out hl1 ho)
        unfold sideIn at ho
        unfold okH at hk2
        generalize hs[k] = h at *
        obtain ⟨h0, h1, h2⟩ := h
        simp only at c0 c1 c2 ho hk2
        have HH := Lib.hid hk2; clear hk2
        obtain ⟨v, hv⟩ : ∃ v, sideV h0 h1 h2 x y d = v := ⟨_, rfl⟩
        rw [hv] at ho
        have hpos : v ≤ 0 := by simpa using ho
        have HO := Lib.hid hv; clear hv ho
        go_wp2_with fail
        go_at_call 71; (with_reducible refine (l04Side_is HO.out _ HH.out HSp.out).mono ?_); rintro e w1 ⟨rfl, hb1⟩
        have r0 := cell_keep (p := ⟨w.heap.size, 0, none⟩) (v := .slice (some ⟨b, off, none⟩) n c) hb1 (by first | (go_keep; done) | (go_simp; done) | (simp; done)) (by first | omega | (simp <;> omega))
        have r1 := cell_keep (p := ⟨w.heap.size + 1, 0, none⟩) (v := .int .i64 x) hb1 (g0 _) (by first | omega | (simp <;> omega))
        have r2 := cell_keep (p := ⟨w.heap.size + 1, 1, none⟩) (v := .int .i64 y) hb1 (g1 _) (by first | omega | (simp <;> omega))
        have r3 := cell_keep (p := ⟨w.heap.size + 1, 2, none⟩) (v := .int .i64 d) hb1 (g2 _) (by first | omega | (simp <;> omega))
        have hS1 : Below w.heap.size w w1 := S_below hb1 (by repeat (first | exact Below.refl _ _ | assumption | refine below_drewN ?_ _ | refine Below.drew ?_ | refine Below.alloc ?_ (by first | omega | (simp <;> omega)) _ | refine Below.setCell ?_ (by first | omega | (simp <;> omega)) _)) (by first | omega | (simp <;> omega))
        have hz1 : w.heap.size + 1 + 1 ≤ w1.heap.size := S_size hb1 (by first | omega | (simp <;> omega))
        clear hb1
        go_wp2_with fail
        go_roundw
        case rel => exact ⟨k + 1, by omega, by go_num, HV, r0, r1, r2, r3, hz1, hS1⟩
        case measure => simp [intOf]; omega
    · have hkn : ¬ k < hs.length := by have := HN.out; omega
      have HV := Lib.hid (show holdsR hs x y d = !decide (n = 0) by unfold holdsR; rw [ing_end HE.out hkn, HN.out]; rfl)
      go_wp2_with fail
      go_ret
      exact ⟨ret_bool (by rw [HV.out]; simp [Nat.pos_iff_ne_zero]), (by repeat (first | exact Below.refl _ _ | assumption | refine below_drewN ?_ _ | refine Below.drew ?_ | refine Below.alloc ?_ (by first | omega | (simp <;> omega)) _ | refine Below.setCell ?_ (by first | omega | (simp <;> omega)) _))⟩

end Go.Proofs.Ythdaoadleeelnaa
