/- Regions copied and compared. -/
import Derived.Test.YthdaoadleeelnaaReg
import Derived.Test.YthdaoadleeelnaaFrm
namespace Go.Proofs.Ythdaoadleeelnaa
open Go.ChangeShapes Go.WideShapes Go.ChangeAt Go.RowKit
attribute [local go_sem ↓] Go.wp_at_zero Go.wp_at_succ
set_option linter.unusedVariables false

/-- A region that the call itself made. -/
def MadeR (hs : List Hp) (w : World) (e : Ending) (w' : World) : Prop := ∃ g c, e = .returned (.agg #[.slice (some ⟨g, 0, none⟩) hs.length c]) ∧ OwnH w' w.heap.size (.slice (some ⟨g, 0, none⟩) hs.length c) hs ∧ w.heap.size ≤ g ∧ Below w.heap.size w w'

theorem OwnH.less {w : World} {B B' : Nat} {v : Value} {hs : List Hp} (h : OwnH w B v hs) (hB : B' ≤ B) : OwnH w B' v hs := by
  refine ⟨h.1, ?_⟩
  rcases h.2 with h | ⟨g, cap, cur, e, hb, rest⟩
  · exact .inl h
  · exact .inr ⟨g, cap, cur, e, by omega, rest⟩

theorem OwnH.set_far {w : World} {B g n c : Nat} {hs : List Hp} (h : OwnH w B (.slice (some ⟨g, 0, none⟩) n c) hs) {p : Addr} (hp : p.block ≠ g) (u : Value) : OwnH (w.setCell p u) B (.slice (some ⟨g, 0, none⟩) n c) hs := by
  refine World.ownsRow.kept h (row := some p.block) ⟨rfl, rfl, rfl, by simp, fun k _ hk => Below.heap_setCell w p u k (fun e => hk (by rw [e]))⟩ (.inr ?_)
  simp [Value.ownBlock]; exact fun e => hp e.symm

theorem set_far_0 {w : World} {b : Nat} {p : Addr} {x : Value} (h : w.cell? ⟨b, 0, none⟩ = some x) (hne : p.block ≠ b) (u v : Value) : ((w.setCell p u).setCell ⟨b, 0, none⟩ v).cell? ⟨b, 0, none⟩ = some v := by
  refine World.cell?_setCell_same (u := x) _ _ _ ?_
  rw [World.cell?_setCell_other _ _ _ _ (by intro e; apply hne; rw [e])]; exact h

set_option maxHeartbeats 1000000 in
theorem toRegion_any (A : Option Addr) (n c : Nat) (hs : List Hp) (w : World) (hn : n = hs.length) (hA : HsAt w w.heap.size A hs) (hl : n ≤ 1048576) :
    Calls Try.prog 19 #[.agg #[.slice A n c]] w (MadeR hs w) := by
  have HA := Lib.hid hA; clear hA
  have HN := Lib.hid hn; clear hn
  go_enter Try.func19, Try.ntmps19
  go_wp2_with fail
  go_at_call 30; refine (toHalfS_any _ _ _ hs _ HN.out (HA.out.step ((((Below.refl _ _).alloc (Nat.le_refl _) _).alloc (by simp) _).alloc (by simp; omega) _)) hl).mono ?_; rintro e w1 ⟨g, c1, rfl, hO, hg, hb⟩
  have cc0 := cell_keep (p := ⟨w.heap.size + 1, 0, none⟩) (v := .slice none 0 0) hb (by first | (go_simp; done) | (simp; done)) (by simp)
  have cc1 := cell_keep (p := ⟨w.heap.size + 1 + 1, 0, none⟩) (v := .slice none 0 0) hb (by first | (go_simp; done) | (simp; done)) (by simp)
  have cf0 := frozen_keep (p := ⟨w.heap.size + 1, 0, none⟩) hb (by first | (go_simp; done) | (simp; done)) (by simp)
  have cf1 := frozen_keep (p := ⟨w.heap.size + 1 + 1, 0, none⟩) hb (by first | (go_simp; done) | (simp; done)) (by simp)
  have hS : Below w.heap.size w w1 := S_below hb (by repeat (first | exact Below.refl _ _ | assumption | refine below_drewN ?_ _ | refine Below.drew ?_ | refine Below.alloc ?_ (by first | omega | (simp <;> omega)) _ | refine Below.setCell ?_ (by first | omega | (simp <;> omega)) _)) (by simp; omega)
  have hz : w.heap.size + 1 + 1 + 1 ≤ w1.heap.size := by have := hb.size; simpa using this
  have hg' : w.heap.size + 1 + 1 + 1 ≤ g := by simpa using hg
  have HO := Lib.hid (hO.less (B' := w.heap.size) (by simp; omega))
  clear hO hb hg
  go_wp2_with fail
  refine bodyPost_ret (v := .agg #[.slice (some ⟨g, 0, none⟩) hs.length c1]) (by simp [results, Try.results19, go_sem, set_far_0 (p := ⟨w.heap.size + 1 + 1, 0, none⟩) cc0 (by simp)]) rfl ⟨g, c1, rfl, ?_, by omega, (by repeat (first | exact Below.refl _ _ | assumption | refine below_drewN ?_ _ | refine Below.drew ?_ | refine Below.alloc ?_ (by first | omega | (simp <;> omega)) _ | refine Below.setCell ?_ (by first | omega | (simp <;> omega)) _))⟩
  exact (HO.out.set_far (by simp; omega) _).set_far (by simp; omega) _

set_option maxHeartbeats 400000 in
theorem eqRegion_any (A A' : Option Addr) (n n' c c' : Nat) (hs hs' : List Hp) (w : World) (hn : n = hs.length) (hn' : n' = hs'.length) (hA : HsAt w w.heap.size A hs) (hA' : HsAt w w.heap.size A' hs') (hm : n ≤ 4611686018427387904) (hm' : n' ≤ 4611686018427387904) {v : Bool} (hv : decide (hs = hs') = v) :
    Calls Try.prog 21 #[.agg #[.slice A n c], .agg #[.slice A' n' c']] w fun e w' => e = .returned (.bool v) ∧ Below w.heap.size w w' := by
  have HA := Lib.hid hA; clear hA
  have HA' := Lib.hid hA'; clear hA'
  have HN := Lib.hid (And.intro hn hn'); clear hn hn'
  have HV := Lib.hid hv; clear hv
  cases v
  all_goals
    go_enter Try.func21, Try.ntmps21
    go_wp2_with fail
    go_at_call 14; refine (eqHalfS_any _ _ _ _ _ _ hs hs' _ HN.out.1 HN.out.2 (HA.out.step (((Below.refl _ _).alloc (Nat.le_refl _) _).alloc (Nat.le_of_lt (new_lt _ _)) _)) (HA'.out.step (((Below.refl _ _).alloc (Nat.le_refl _) _).alloc (Nat.le_of_lt (new_lt _ _)) _)) hm hm').mono ?_; rintro e w1 ⟨he, hb⟩
    rw [HV.out] at he
    subst he
    have hS : Below w.heap.size w w1 := S_below hb (by repeat (first | exact Below.refl _ _ | assumption | refine below_drewN ?_ _ | refine Below.drew ?_ | refine Below.alloc ?_ (by first | omega | (simp <;> omega)) _ | refine Below.setCell ?_ (by first | omega | (simp <;> omega)) _)) (by simp; omega)
    clear hb
    go_wp2_with fail
    go_ret
    exact ⟨rfl, hS⟩

set_option maxHeartbeats 1000000 in
theorem slicesEqual_any (A A' : Option Addr) (n n' c c' : Nat) (hs hs' : List Hp) (w : World) (hn : n = hs.length) (hn' : n' = hs'.length) (hA : HsAt w w.heap.size A hs) (hA' : HsAt w w.heap.size A' hs') (hm : n ≤ 4611686018427387904) (hm' : n' ≤ 4611686018427387904) :
    Calls Try.prog 44 #[.slice A n c, .slice A' n' c'] w fun e w' => e = .returned (.bool (decide (hs = hs'))) ∧ Below w.heap.size w w' := by
  have HA := Lib.hid hA; clear hA
  have HA' := Lib.hid hA'; clear hA'
  by_cases he : n = n'
  · subst he
    have HN := Lib.hid hn; clear hn
    have HN' := Lib.hid hn'; clear hn'
    go_enter Try.func44, Try.ntmps44
    go_wp2
    go_loopw [13] (fun i wr => ∃ k : Nat, k ≤ n ∧ i = .int .i64 k ∧ RowKit.Hid (hs.take k = hs'.take k) ∧ Below w.heap.size w wr) (fun i _ => n - (intOf i).toNat)
    case atStart => exact ⟨0, Nat.zero_le _, rfl, rfl, Below.refl _ _⟩
    case round =>
      obtain ⟨k, hk, rfl, HE, hb⟩ := hrel
      by_cases hlt : k < n
      · have hl1 : k < hs.length := by have := HN.out; omega
        have hl2 : k < hs'.length := by have := HN'.out; omega
        obtain ⟨b, off, rfl, hlb, c0, c1, c2⟩ := (HA.out.below hb).at_ hl1
        obtain ⟨b', off', rfl, hlb', d0, d1, d2⟩ := (HA'.out.below hb).at_ hl2
        have hz := hb.size
        have hx : hs[k] = hs'[k] → RowKit.Hid (hs.take (k + 1) = hs'.take (k + 1)) := fun e => take_step HE.out hl1 hl2 e
        have hy : ¬ hs[k] = hs'[k] → RowKit.Hid (decide (hs = hs') = false) := fun e => by
          refine decide_eq_false (fun h => e ?_); subst h; rfl
        generalize hs[k] = x at *
        generalize hs'[k] = y at *
        obtain ⟨x0, x1, x2⟩ := x
        obtain ⟨y0, y1, y2⟩ := y
        simp only at c0 c1 c2 d0 d1 d2
        by_cases e0 : x0 = y0
        · by_cases e1 : x1 = y1
          · by_cases e2 : x2 = y2
            · subst e0 e1 e2
              have HF := hx rfl
              clear hx hy
              go_wp2_with fail
              go_quiet (fail)
              go_wp2_with fail
              go_roundw
              case rel => exact ⟨k + 1, by omega, by go_num, HF, (by repeat (first | exact Below.refl _ _ | assumption | refine below_drewN ?_ _ | refine Below.drew ?_ | refine Below.alloc ?_ (by first | omega | (simp <;> omega)) _ | refine Below.setCell ?_ (by first | omega | (simp <;> omega)) _))⟩
              case measure => simp [intOf]; omega
            · subst e0 e1
              have HF := hy (fun e => e2 (by injection e with _ e; injection e))
              clear hx hy
              go_wp2_with fail
              go_quiet (fail)
              go_wp2_with fail
              go_ret
              exact ⟨ret_bool HF.out.symm, (by repeat (first | exact Below.refl _ _ | assumption | refine below_drewN ?_ _ | refine Below.drew ?_ | refine Below.alloc ?_ (by first | omega | (simp <;> omega)) _ | refine Below.setCell ?_ (by first | omega | (simp <;> omega)) _))⟩
          · subst e0
            have HF := hy (fun e => e1 (by injection e with _ e; injection e))
            clear hx hy
            go_wp2_with fail
            go_quiet (fail)
            go_wp2_with fail
            go_ret
            exact ⟨ret_bool HF.out.symm, (by repeat (first | exact Below.refl _ _ | assumption | refine below_drewN ?_ _ | refine Below.drew ?_ | refine Below.alloc ?_ (by first | omega | (simp <;> omega)) _ | refine Below.setCell ?_ (by first | omega | (simp <;> omega)) _))⟩
        · have HF := hy (fun e => e0 (by injection e))
          clear hx hy
          go_wp2_with fail
          go_quiet (fail)
          go_wp2_with fail
          go_ret
          exact ⟨ret_bool HF.out.symm, (by repeat (first | exact Below.refl _ _ | assumption | refine below_drewN ?_ _ | refine Below.drew ?_ | refine Below.alloc ?_ (by first | omega | (simp <;> omega)) _ | refine Below.setCell ?_ (by first | omega | (simp <;> omega)) _))⟩
      · have HF := Lib.hid (show decide (hs = hs') = true by
          refine decide_eq_true ?_
          have e := HE.out
          rwa [List.take_of_length_le (by have := HN.out; omega), List.take_of_length_le (by have := HN'.out; omega)] at e)
        go_wp2_with fail
        go_ret
        exact ⟨ret_bool HF.out.symm, hb⟩
  · have HF := Lib.hid (show decide (hs = hs') = false by
      refine decide_eq_false (fun h => he ?_); subst h; omega)
    clear hn hn'
    go_enter Try.func44, Try.ntmps44
    go_wp2
    go_ret
    exact ⟨ret_bool HF.out.symm, (by repeat (first | exact Below.refl _ _ | assumption | refine below_drewN ?_ _ | refine Below.drew ?_ | refine Below.alloc ?_ (by first | omega | (simp <;> omega)) _ | refine Below.setCell ?_ (by first | omega | (simp <;> omega)) _))⟩

end Go.Proofs.Ythdaoadleeelnaa
