/- l05Sorted of the reference: the half planes sorted by angle. -/
import Derived.Test.YthdaoadleeelnaaRn9
import Derived.Test.YthdaoadleeelnaaQb
import Derived.Test.YthdaoadleeelnaaApp
namespace Go.Proofs.Ythdaoadleeelnaa
open Go.ChangeShapes Go.WideShapes Go.ChangeAt Go.RowKit
attribute [local go_sem ↓] Go.wp_at_zero Go.wp_at_succ
set_option linter.unusedVariables false

theorem sBefore_is {a b c a' b' c' : Int} {v : Bool} (hg : okH (a, b, c) = true) (hh : okH (a', b', c') = true) (hv : befH (a, b, c) (a', b', c') = v) (w : World) :
    Calls Try.prog 79 #[.agg #[.int .i64 a, .int .i64 b, .int .i64 c], .agg #[.int .i64 a', .int .i64 b', .int .i64 c']] w fun e w' => e = .returned (.bool v) ∧ Below w.heap.size w w' := by
  have e : bangV a b c a' b' c' = v := by unfold okH at hg hh; unfold bangV; rw [hg, hh]; exact hv
  rw [← e]; exact sBeforeAngle_any a b c a' b' c' w

theorem sSame_is {a b c a' b' c' : Int} {v : Bool} (hg : okH (a, b, c) = true) (hh : okH (a', b', c') = true) (hv : sdH (a, b, c) (a', b', c') = v) (w : World) :
    Calls Try.prog 80 #[.agg #[.int .i64 a, .int .i64 b, .int .i64 c], .agg #[.int .i64 a', .int .i64 b', .int .i64 c']] w fun e w' => e = .returned (.bool v) ∧ Below w.heap.size w w' := by
  have e : sdirV a b c a' b' c' = v := by unfold okH at hg hh; unfold sdirV; rw [hg, hh]; exact hv
  exact sSameDirection_lit e w

theorem tgV_is {g h : Hp} (hg : okH g = true) (hh : okH h = true) (hs : sdH g h = true) (s t : Int) : tgV g.1 g.2.1 g.2.2 h.1 h.2.1 h.2.2 s t = if ltH h g then t else s := by
  unfold okH at hg hh
  have e : sdirV g.1 g.2.1 g.2.2 h.1 h.2.1 h.2.2 = true := by unfold sdirV; rw [hg, hh]; exact hs
  unfold tgV
  rw [e]
  unfold tgB ltH szV szH
  simp only [if_true, decide_eq_true_eq]
  congr

theorem tg_parts {g h t : Hp} (hg : okH g = true) (hh : okH h = true) (hs : sdH g h = true) (ht : tgH g h = t) :
    tgV g.1 g.2.1 g.2.2 h.1 h.2.1 h.2.2 g.1 h.1 = t.1 ∧ tgV g.1 g.2.1 g.2.2 h.1 h.2.1 h.2.2 g.2.1 h.2.1 = t.2.1 ∧ tgV g.1 g.2.1 g.2.2 h.1 h.2.1 h.2.2 g.2.2 h.2.2 = t.2.2 := by
  subst ht
  rw [tgV_is hg hh hs, tgV_is hg hh hs, tgV_is hg hh hs]
  unfold tgH
  split <;> simp

theorem sTighter_is {a b c a' b' c' t0 t1 t2 : Int} (hg : okH (a, b, c) = true) (hh : okH (a', b', c') = true) (hs : sdH (a, b, c) (a', b', c') = true) (ht : tgH (a, b, c) (a', b', c') = (t0, t1, t2)) (w : World) :
    Calls Try.prog 81 #[.agg #[.int .i64 a, .int .i64 b, .int .i64 c], .agg #[.int .i64 a', .int .i64 b', .int .i64 c']] w fun e w' => e = .returned (.agg #[.int .i64 t0, .int .i64 t1, .int .i64 t2]) ∧ Below w.heap.size w w' := by
  obtain ⟨e1, e2, e3⟩ := tg_parts hg hh hs ht
  have := sTighterHalf_any a b c a' b' c' w
  simp only at e1 e2 e3
  rw [e1, e2, e3] at this
  exact this

theorem shift_len {L : List Hp} {m : Nat} (x : Hp) (hl : m ≤ L.length) : (L.take m ++ x :: L.drop m).length = L.length + 1 := by simp; omega

theorem OwnH.at3' {w : World} {B g n c : Nat} {hs : List Hp} (h : OwnH w B (.slice (some ⟨g, 0, none⟩) n c) hs) {k : Nat} {x : Hp} (hk : hs[k]? = some x) :
    (w.cell? ⟨g, k * 3, none⟩ = some (.int .i64 x.1) ∧ w.cell? ⟨g, k * 3 + 1, none⟩ = some (.int .i64 x.2.1) ∧ w.cell? ⟨g, k * 3 + 2, none⟩ = some (.int .i64 x.2.2)) ∧ (w.frozen? ⟨g, k * 3, none⟩ = false ∧ w.frozen? ⟨g, k * 3 + 1, none⟩ = false ∧ w.frozen? ⟨g, k * 3 + 2, none⟩ = false) := by
  have hlt : k < hs.length := by
    rcases Nat.lt_or_ge k hs.length with h' | h'
    · exact h'
    · rw [List.getElem?_eq_none h'] at hk; cases hk
  rw [List.getElem?_eq_getElem hlt] at hk
  injection hk with hk
  obtain ⟨g', e, _, _, c, f⟩ := h.at3 hlt
  injection e with e; injection e with e _; subst e
  rw [hk] at c
  exact ⟨c, f⟩

theorem OwnH.frz {w : World} {B g n c : Nat} {hs : List Hp} (h : OwnH w B (.slice (some ⟨g, 0, none⟩) n c) hs) (o : Nat) : w.frozen? ⟨g, o, none⟩ = false := by
  obtain ⟨rfl, _⟩ := h.reads
  exact World.ownsRow.frozenAt h o

theorem shift_self {L : List Hp} {m : Nat} (x : Hp) (hl : m ≤ L.length) : (L.take m ++ x :: L.drop m)[m]? = some x := by
  have e1 : (L.take m).length = m := by simp; omega
  rw [List.getElem?_append_right (by omega), e1, Nat.sub_self]; rfl
/-- A store of a whole half plane. -/
theorem OwnH.put3 {w : World} {B g n c k : Nat} {S S' : List Hp} (h : OwnH w B (.slice (some ⟨g, 0, none⟩) n c) S) (hn : n = S.length) (hk : k < S.length) (y : Hp) (hS : S.set k y = S') {w0 : World} (hb : Below B w0 w) (hB : B ≤ w.heap.size) (hg : B ≤ g) :
    OwnH (((w.setCell ⟨g, k * 3, none⟩ (.int .i64 y.1)).setCell ⟨g, k * 3 + 1, none⟩ (.int .i64 y.2.1)).setCell ⟨g, k * 3 + 2, none⟩ (.int .i64 y.2.2)) B (.slice (some ⟨g, 0, none⟩) n c) S' ∧
    Below B w0 (((w.setCell ⟨g, k * 3, none⟩ (.int .i64 y.1)).setCell ⟨g, k * 3 + 1, none⟩ (.int .i64 y.2.1)).setCell ⟨g, k * 3 + 2, none⟩ (.int .i64 y.2.2)) := by
  obtain ⟨r1, r2⟩ := h.store3 hn hk y.1 y.2.1 y.2.2
  rw [hS] at r1
  exact ⟨r1, hb.grown r2 hB (by intro q e; injection e with e; omega)⟩

theorem far_of {w : World} {B b : Nat} {v : Value} {L : List Hp} (h : OwnH w B v L) (hb : w.heap.size ≤ b) : v.ownBlock ≠ some b := fun e => by
  have := h.lt _ e; omega

set_option maxHeartbeats 1000000 in
set_option maxRecDepth 100000 in
theorem l05Sorted_any (A : Option Addr) (n c : Nat) (hs : List Hp) (w : World) (hn : n = hs.length) (hA : HsAt w w.heap.size A hs) (hm : n ≤ 1048576) (hok : ∀ h ∈ hs, okH h = true) :
    Calls Try.prog 65 #[.slice A n c] w fun e w' => ∃ v, e = .returned v ∧ OwnH w' w.heap.size v (sortH hs) ∧ Below w.heap.size w w' := by
  have HA := Lib.hid hA; clear hA
  have HN := Lib.hid hn; clear hn
  have HK := Lib.hid hok; clear hok
  obtain ⟨i0, hi0, hz0, hz1, hz2⟩ := info_parts infoH
  go_enter Try.func65, Try.ntmps65
  go_wp2_with fail
  go_loopw [3, 11] (fun v i wr => ∃ (k : Nat) (L : List Hp) (Av : Option Addr) (cv : Nat), k ≤ n ∧ i = .int .i64 k ∧ v = .slice Av L.length cv ∧ L.length ≤ k ∧ RowKit.Hid (L = sortH (hs.take k)) ∧ RowKit.Hid (OwnH wr w.heap.size (.slice Av L.length cv) L) ∧ RowKit.Hid (∀ x ∈ L, okH x = true) ∧ Below w.heap.size w wr) (fun _ i _ => n - (intOf i).toNat)
  case atStart =>
    refine ⟨0, [], _, _, Nat.zero_le _, rfl, rfl, Nat.le_refl _, rfl, ?_, ?_, (by repeat (first | exact Below.refl _ _ | assumption | refine below_drewN ?_ _ | refine Below.drew ?_ | refine Below.alloc ?_ (by first | omega | (simp <;> omega)) _ | refine Below.setCell ?_ (by first | omega | (simp <;> omega)) _))⟩
    · exact World.ownsRow_lit w _ 0 (Nat.le_refl _) (by unfold maxLen; omega) rfl
    · intro x hx; cases hx
  case round =>
    obtain ⟨k, L, Av, cv, hk, rfl, rfl, hLk, HL, HO, HX, hb⟩ := hrel
    have hsz := hb.size
    by_cases hlt : k < n
    · have hl1 : k < hs.length := by have := HN.out; omega
      obtain ⟨b, off, rfl, hlb, c0, c1, c2⟩ := (HA.out.below hb).at_ hl1
      have hlb' : b < wr.heap.size := by omega
      have HS := Lib.hid (sortH_step hl1)
      have hh := HK.out _ (List.getElem_mem hl1)
      generalize hs[k] = h at *
      obtain ⟨h0, h1, h2⟩ := h
      simp only at c0 c1 c2
      have HH := Lib.hid hh; clear hh
      rename World => wo
      go_wp2_with fail
      go_loopw [6] (fun j wr => ∃ j' : Nat, j' ≤ L.length ∧ j = .int .i64 j' ∧ RowKit.Hid (AtPl L (h0, h1, h2) j') ∧ RowKit.Hid (OwnH wr w.heap.size (.slice Av L.length cv) L) ∧ wr.cell? ⟨wo.heap.size, 0, none⟩ = some (.int .i64 h0) ∧ wr.cell? ⟨wo.heap.size, 1, none⟩ = some (.int .i64 h1) ∧ wr.cell? ⟨wo.heap.size, 2, none⟩ = some (.int .i64 h2) ∧ wo.heap.size + 1 ≤ wr.heap.size ∧ Below w.heap.size w wr) (fun j _ => L.length - (intOf j).toNat)
      case atStart => exact ⟨0, Nat.zero_le _, rfl, atPl_zero _ _, HO.out.kept ((Below.refl _ _).alloc (Nat.le_refl _) _), by first | (go_simp; done) | (simp; done), by first | (go_simp; done) | (simp; done), by first | (go_simp; done) | (simp; done), by simp, (by repeat (first | exact Below.refl _ _ | assumption | refine below_drewN ?_ _ | refine Below.drew ?_ | refine Below.alloc ?_ (by first | omega | (simp <;> omega)) _ | refine Below.setCell ?_ (by first | omega | (simp <;> omega)) _))⟩
      case round =>
        obtain ⟨j, hj, rfl, HP, HO2, p0, p1, p2, hz, hb2⟩ := hrel
        by_cases hlj : j < L.length
        · obtain ⟨g, rfl, hgB, hgw, ⟨d0, d1, d2⟩, z0, z1, z2⟩ := HO2.out.at3 hlj
          have hlj' : (j : Int) < (L.length : Int) := by omega
          have hstep := fun e => Lib.hid (atPl_step HP.out hlj e)
          have hmid := fun e e' => Lib.hid (insH_mid HP.out hlj e e')
          have hsame := fun e e' => Lib.hid (insH_same HP.out hlj e e')
          have hy := HX.out _ (List.getElem_mem hlj)
          generalize L[j] = y at *
          obtain ⟨y0, y1, y2⟩ := y
          simp only at d0 d1 d2
          have HY := Lib.hid hy; clear hy
          cases hv : befH (y0, y1, y2) (h0, h1, h2)
          · have HV := Lib.hid hv
            cases hv2 : sdH (y0, y1, y2) (h0, h1, h2)
            · have HI := hmid hv hv2
              have HV2 := Lib.hid hv2
              clear hstep hmid hsame hv hv2
              go_wp2_with fail
              try simp only [List.append_eq, List.cons_append, List.nil_append]
              refine wp_region_qb (by kernel_rfl) (by kernel_rfl) (fun W_q hW_q => ?_)
              have kq0 : ∀ d_ os_, (Sort.grow (redrawn W_q d_) os_).cell? ⟨wo.heap.size, 0, none⟩ = some (.int .i64 h0) := fun d_ os_ => cell_regrown (by rw [hW_q.out]; first | assumption | (go_keep; done) | (go_simp; done) | (simp; done)) d_ os_
              have kq1 : ∀ d_ os_, (Sort.grow (redrawn W_q d_) os_).cell? ⟨wo.heap.size, 1, none⟩ = some (.int .i64 h1) := fun d_ os_ => cell_regrown (by rw [hW_q.out]; first | assumption | (go_keep; done) | (go_simp; done) | (simp; done)) d_ os_
              have kq2 : ∀ d_ os_, (Sort.grow (redrawn W_q d_) os_).cell? ⟨wo.heap.size, 2, none⟩ = some (.int .i64 h2) := fun d_ os_ => cell_regrown (by rw [hW_q.out]; first | assumption | (go_keep; done) | (go_simp; done) | (simp; done)) d_ os_
              have kq3 : ∀ d_ os_, (Sort.grow (redrawn W_q d_) os_).cell? ⟨g, (j*3), none⟩ = some (.int .i64 y0) := fun d_ os_ => cell_regrown (by rw [hW_q.out]; first | assumption | (go_keep; done) | (go_simp; done) | (simp; done)) d_ os_
              have kq4 : ∀ d_ os_, (Sort.grow (redrawn W_q d_) os_).cell? ⟨g, (j*3+1), none⟩ = some (.int .i64 y1) := fun d_ os_ => cell_regrown (by rw [hW_q.out]; first | assumption | (go_keep; done) | (go_simp; done) | (simp; done)) d_ os_
              have kq5 : ∀ d_ os_, (Sort.grow (redrawn W_q d_) os_).cell? ⟨g, (j*3+2), none⟩ = some (.int .i64 y2) := fun d_ os_ => cell_regrown (by rw [hW_q.out]; first | assumption | (go_keep; done) | (go_simp; done) | (simp; done)) d_ os_
              repeat (go_big_quiet_step (first | (go_at_call 79; with_reducible exact Calls.regrown_of (sBefore_is HY.out HH.out HV.out _))))
              refine wpQuiet_nil ?_
              intro _ hw_q
              obtain ⟨⟨dq_, osq_⟩, hw_q⟩ := hw_q
              subst hw_q
              have hb1 := below_regrown W_q dq_ osq_
              clear kq0 kq1 kq2 kq3 kq4 kq5
              generalize Sort.grow (redrawn W_q dq_) osq_ = wq at *
              have hW_q := hW_q.out
              subst hW_q
              have HO3 := Lib.hid (HO2.out.kept hb1)
              have cc_wq0 := cell_keep (p := ⟨wo.heap.size, 0, none⟩) (v := .int .i64 h0) hb1 (by first | assumption | (go_keep; done) | (go_simp; done) | (simp; done)) (by first | omega | (simp <;> omega))
              have cc_wq1 := cell_keep (p := ⟨wo.heap.size, 1, none⟩) (v := .int .i64 h1) hb1 (by first | assumption | (go_keep; done) | (go_simp; done) | (simp; done)) (by first | omega | (simp <;> omega))
              have cc_wq2 := cell_keep (p := ⟨wo.heap.size, 2, none⟩) (v := .int .i64 h2) hb1 (by first | assumption | (go_keep; done) | (go_simp; done) | (simp; done)) (by first | omega | (simp <;> omega))
              have cc_wq3 := cell_keep (p := ⟨g, (j*3), none⟩) (v := .int .i64 y0) hb1 (by first | assumption | (go_keep; done) | (go_simp; done) | (simp; done)) (by first | omega | (simp <;> omega))
              have cc_wq4 := cell_keep (p := ⟨g, (j*3+1), none⟩) (v := .int .i64 y1) hb1 (by first | assumption | (go_keep; done) | (go_simp; done) | (simp; done)) (by first | omega | (simp <;> omega))
              have cc_wq5 := cell_keep (p := ⟨g, (j*3+2), none⟩) (v := .int .i64 y2) hb1 (by first | assumption | (go_keep; done) | (go_simp; done) | (simp; done)) (by first | omega | (simp <;> omega))
              have hS1_wq : Below w.heap.size w wq := S_below hb1 (by repeat (first | exact Below.refl _ _ | assumption | refine below_drewN ?_ _ | refine Below.drew ?_ | refine Below.alloc ?_ (by first | omega | (simp <;> omega)) _ | refine Below.setCell ?_ (by first | omega | (simp <;> omega)) _)) (by first | omega | (simp <;> omega))
              have hz1_wq : w.heap.size ≤ wq.heap.size := S_size hb1 (by first | omega | (simp <;> omega))
              have hqb_wq0 : wo.heap.size < wq.heap.size := S_lt hb1 (by first | omega | (simp <;> omega))
              have hqb_wq1 : g < wq.heap.size := S_lt hb1 (by first | omega | (simp <;> omega))
              clear hb1
              go_wp2_with fail
              try simp only [List.append_eq, List.cons_append, List.nil_append]
              refine wp_region_qb (by kernel_rfl) (by kernel_rfl) (fun W_q hW_q => ?_)
              have kq0 : ∀ d_ os_, (Sort.grow (redrawn W_q d_) os_).cell? ⟨wo.heap.size, 0, none⟩ = some (.int .i64 h0) := fun d_ os_ => cell_regrown (by rw [hW_q.out]; first | assumption | (go_keep; done) | (go_simp; done) | (simp; done)) d_ os_
              have kq1 : ∀ d_ os_, (Sort.grow (redrawn W_q d_) os_).cell? ⟨wo.heap.size, 1, none⟩ = some (.int .i64 h1) := fun d_ os_ => cell_regrown (by rw [hW_q.out]; first | assumption | (go_keep; done) | (go_simp; done) | (simp; done)) d_ os_
              have kq2 : ∀ d_ os_, (Sort.grow (redrawn W_q d_) os_).cell? ⟨wo.heap.size, 2, none⟩ = some (.int .i64 h2) := fun d_ os_ => cell_regrown (by rw [hW_q.out]; first | assumption | (go_keep; done) | (go_simp; done) | (simp; done)) d_ os_
              have kq3 : ∀ d_ os_, (Sort.grow (redrawn W_q d_) os_).cell? ⟨g, (j*3), none⟩ = some (.int .i64 y0) := fun d_ os_ => cell_regrown (by rw [hW_q.out]; first | assumption | (go_keep; done) | (go_simp; done) | (simp; done)) d_ os_
              have kq4 : ∀ d_ os_, (Sort.grow (redrawn W_q d_) os_).cell? ⟨g, (j*3+1), none⟩ = some (.int .i64 y1) := fun d_ os_ => cell_regrown (by rw [hW_q.out]; first | assumption | (go_keep; done) | (go_simp; done) | (simp; done)) d_ os_
              have kq5 : ∀ d_ os_, (Sort.grow (redrawn W_q d_) os_).cell? ⟨g, (j*3+2), none⟩ = some (.int .i64 y2) := fun d_ os_ => cell_regrown (by rw [hW_q.out]; first | assumption | (go_keep; done) | (go_simp; done) | (simp; done)) d_ os_
              repeat (go_big_quiet_step (first | (go_at_call 80; with_reducible exact Calls.regrown_of (sSame_is HY.out HH.out HV2.out _))))
              refine wpQuiet_nil ?_
              intro _ hw_q
              obtain ⟨⟨dq_, osq_⟩, hw_q⟩ := hw_q
              subst hw_q
              have hb1 := below_regrown W_q dq_ osq_
              clear kq0 kq1 kq2 kq3 kq4 kq5
              generalize Sort.grow (redrawn W_q dq_) osq_ = wp at *
              have hW_q := hW_q.out
              subst hW_q
              have HO3 := Lib.hid (HO3.out.kept hb1)
              have cc_wp0 := cell_keep (p := ⟨wo.heap.size, 0, none⟩) (v := .int .i64 h0) hb1 (by first | assumption | (go_keep; done) | (go_simp; done) | (simp; done)) (by first | omega | (simp <;> omega))
              have cc_wp1 := cell_keep (p := ⟨wo.heap.size, 1, none⟩) (v := .int .i64 h1) hb1 (by first | assumption | (go_keep; done) | (go_simp; done) | (simp; done)) (by first | omega | (simp <;> omega))
              have cc_wp2 := cell_keep (p := ⟨wo.heap.size, 2, none⟩) (v := .int .i64 h2) hb1 (by first | assumption | (go_keep; done) | (go_simp; done) | (simp; done)) (by first | omega | (simp <;> omega))
              have cc_wp3 := cell_keep (p := ⟨g, (j*3), none⟩) (v := .int .i64 y0) hb1 (by first | assumption | (go_keep; done) | (go_simp; done) | (simp; done)) (by first | omega | (simp <;> omega))
              have cc_wp4 := cell_keep (p := ⟨g, (j*3+1), none⟩) (v := .int .i64 y1) hb1 (by first | assumption | (go_keep; done) | (go_simp; done) | (simp; done)) (by first | omega | (simp <;> omega))
              have cc_wp5 := cell_keep (p := ⟨g, (j*3+2), none⟩) (v := .int .i64 y2) hb1 (by first | assumption | (go_keep; done) | (go_simp; done) | (simp; done)) (by first | omega | (simp <;> omega))
              have hS1_wp : Below w.heap.size w wp := S_below hb1 (by repeat (first | exact Below.refl _ _ | assumption | refine below_drewN ?_ _ | refine Below.drew ?_ | refine Below.alloc ?_ (by first | omega | (simp <;> omega)) _ | refine Below.setCell ?_ (by first | omega | (simp <;> omega)) _)) (by first | omega | (simp <;> omega))
              have hz1_wp : w.heap.size ≤ wp.heap.size := S_size hb1 (by first | omega | (simp <;> omega))
              have hqb_wp0 : wo.heap.size < wp.heap.size := S_lt hb1 (by first | omega | (simp <;> omega))
              have hqb_wp1 : g < wp.heap.size := S_lt hb1 (by first | omega | (simp <;> omega))
              clear hb1
              have hL1 : L.length + 1 ≤ 2097152 := by omega
              go_wp2_with (first
                | (at_builtin; refine wpList_appendH rfl (.tmp 50) (.tmp 52) rfl (HO3.out.kept ((Below.refl _ _).alloc (Nat.le_refl _) _)) rfl rfl (M := [(0, 0, 0)]) rfl (hsAt_new _ _ _ _ _) hL1 (Nat.le_trans hz1_wp (Nat.le_of_lt (new_lt _ _))) ?_; intro v2 w2 hap; obtain ⟨g2, c2, rfl, hg2B, hg2⟩ := hap.shape (k := 1) rfl Nat.one_pos))
              have hB2 : Below w.heap.size w w2 := hap.below (HO3.out.kept ((Below.refl _ _).alloc (Nat.le_refl _) _)) (hS1_wp.alloc hz1_wp _) (Nat.le_trans hz1_wp (Nat.le_of_lt (new_lt _ _)))
              obtain ⟨hne2, hcell2⟩ := hap.other (b := wo.heap.size) (by rw [World.size_alloc]; omega) (far_of HO.out (Nat.le_refl _))
              have q0 := hcell2 _ _ ((World.cell?_alloc_lt wp _ ⟨wo.heap.size, 0, none⟩ (by simp; omega)).trans cc_wp0)
              have q1 := hcell2 _ _ ((World.cell?_alloc_lt wp _ ⟨wo.heap.size, 1, none⟩ (by simp; omega)).trans cc_wp1)
              have q2 := hcell2 _ _ ((World.cell?_alloc_lt wp _ ⟨wo.heap.size, 2, none⟩ (by simp; omega)).trans cc_wp2)
              have hz2' : wo.heap.size + 1 ≤ w2.heap.size := by have := hap.2.1.size; rw [World.size_alloc] at this; omega
              have hne3 : ¬ g2 = wo.heap.size := fun e => hne2 (by rw [e]; rfl)
              have HO4 := Lib.hid hap.1
              clear hap hne2 hcell2
              go_loopw [7] (fun q wr => ∃ (m : Nat) (x : Hp), q = .int .i64 m ∧ j ≤ m ∧ m ≤ L.length ∧ RowKit.Hid (OwnH wr w.heap.size (.slice (some ⟨g2, 0, none⟩) (L.length + 1) c2) (L.take m ++ x :: L.drop m)) ∧ wr.cell? ⟨wo.heap.size, 0, none⟩ = some (.int .i64 h0) ∧ wr.cell? ⟨wo.heap.size, 1, none⟩ = some (.int .i64 h1) ∧ wr.cell? ⟨wo.heap.size, 2, none⟩ = some (.int .i64 h2) ∧ wo.heap.size + 1 ≤ wr.heap.size ∧ Below w.heap.size w wr) (fun q _ => (intOf q).toNat)
              case atStart => exact ⟨L.length, (0, 0, 0), rfl, hj, Nat.le_refl _, (by have := HO4.out; simpa [RowKit.Hid] using this), q0, q1, q2, hz2', hB2⟩
              case round =>
                obtain ⟨m, x, rfl, hm1, hm2, HO5, r0, r1, r2, hz5, hb5⟩ := hrel
                have hlen := shift_len x hm2
                have hsz5 := hb5.size
                obtain ⟨⟨e0, e1, e2⟩, f0, f1, f2⟩ := HO5.out.at3' (shift_self x hm2)
                obtain ⟨x0, x1, x2⟩ := x
                simp only at e0 e1 e2
                by_cases hjm : j < m
                · skip
                  all_goals
                    have hmm : m - 1 < L.length := by omega
                    obtain ⟨⟨s0, s1, s2⟩, _⟩ := HO5.out.at3' (shift_get (x0, x1, x2) (by omega : 0 < m) hm2)
                    obtain ⟨P1, P2⟩ := HO5.out.put3 (k := m) hlen.symm (by omega) L[m - 1] (shift_step (x0, x1, x2) (by omega) hm2) hb5 hsz5 hg2B
                    generalize L[m - 1] = z at *
                    obtain ⟨z0, z1, z2⟩ := z
                    simp only at s0 s1 s2 P1 P2
                    have P1 := Lib.hid P1
                    have P2 := Lib.hid P2
                    go_wp2_with fail
                    go_roundw
                    case rel => exact ⟨m - 1, (z0, z1, z2), by go_num, by omega, by omega, P1, by first | (go_keep; done) | (go_simp; done) | (simp; done), by first | (go_keep; done) | (go_simp; done) | (simp; done), by first | (go_keep; done) | (go_simp; done) | (simp; done), by simp; omega, P2⟩
                    case measure => simp [intOf]; omega
                · have hjm' : m = j := by omega
                  subst hjm'
                  obtain ⟨P1, P2⟩ := HO5.out.put3 (k := m) hlen.symm (by omega) (h0, h1, h2) (shift_set (x0, x1, x2) (h0, h1, h2) hm2) hb5 hsz5 hg2B
                  simp only at P1 P2
                  have P1 := Lib.hid P1
                  have P2 := Lib.hid P2
                  go_wp2_with fail
                  go_roundw
                  case rel => exact ⟨k + 1, L.take m ++ (h0, h1, h2) :: L.drop m, some ⟨g2, 0, none⟩, c2, by omega, by go_num, by rw [shift_len _ hm2], by rw [shift_len _ hm2]; omega, (by show _ = _; rw [HS.out, ← HL.out, HI.out]), (by have := P1.out; rw [shift_len _ hm2]; exact this), (by show ∀ x ∈ _, _; rw [← HI.out]; exact insH_ok HX.out HH.out), P2⟩
                  case measure => simp [intOf]; omega
            · have HI := hsame hv hv2
              have HV2 := Lib.hid hv2
              clear hstep hmid hsame hv hv2
              go_wp2_with fail
              try simp only [List.append_eq, List.cons_append, List.nil_append]
              refine wp_region_qb (by kernel_rfl) (by kernel_rfl) (fun W_q hW_q => ?_)
              have kq0 : ∀ d_ os_, (Sort.grow (redrawn W_q d_) os_).cell? ⟨wo.heap.size, 0, none⟩ = some (.int .i64 h0) := fun d_ os_ => cell_regrown (by rw [hW_q.out]; first | assumption | (go_keep; done) | (go_simp; done) | (simp; done)) d_ os_
              have kq1 : ∀ d_ os_, (Sort.grow (redrawn W_q d_) os_).cell? ⟨wo.heap.size, 1, none⟩ = some (.int .i64 h1) := fun d_ os_ => cell_regrown (by rw [hW_q.out]; first | assumption | (go_keep; done) | (go_simp; done) | (simp; done)) d_ os_
              have kq2 : ∀ d_ os_, (Sort.grow (redrawn W_q d_) os_).cell? ⟨wo.heap.size, 2, none⟩ = some (.int .i64 h2) := fun d_ os_ => cell_regrown (by rw [hW_q.out]; first | assumption | (go_keep; done) | (go_simp; done) | (simp; done)) d_ os_
              have kq3 : ∀ d_ os_, (Sort.grow (redrawn W_q d_) os_).cell? ⟨g, (j*3), none⟩ = some (.int .i64 y0) := fun d_ os_ => cell_regrown (by rw [hW_q.out]; first | assumption | (go_keep; done) | (go_simp; done) | (simp; done)) d_ os_
              have kq4 : ∀ d_ os_, (Sort.grow (redrawn W_q d_) os_).cell? ⟨g, (j*3+1), none⟩ = some (.int .i64 y1) := fun d_ os_ => cell_regrown (by rw [hW_q.out]; first | assumption | (go_keep; done) | (go_simp; done) | (simp; done)) d_ os_
              have kq5 : ∀ d_ os_, (Sort.grow (redrawn W_q d_) os_).cell? ⟨g, (j*3+2), none⟩ = some (.int .i64 y2) := fun d_ os_ => cell_regrown (by rw [hW_q.out]; first | assumption | (go_keep; done) | (go_simp; done) | (simp; done)) d_ os_
              repeat (go_big_quiet_step (first | (go_at_call 79; with_reducible exact Calls.regrown_of (sBefore_is HY.out HH.out HV.out _))))
              refine wpQuiet_nil ?_
              intro _ hw_q
              obtain ⟨⟨dq_, osq_⟩, hw_q⟩ := hw_q
              subst hw_q
              have hb1 := below_regrown W_q dq_ osq_
              clear kq0 kq1 kq2 kq3 kq4 kq5
              generalize Sort.grow (redrawn W_q dq_) osq_ = wq at *
              have hW_q := hW_q.out
              subst hW_q
              have HO3 := Lib.hid (HO2.out.kept hb1)
              have cc_wq0 := cell_keep (p := ⟨wo.heap.size, 0, none⟩) (v := .int .i64 h0) hb1 (by first | assumption | (go_keep; done) | (go_simp; done) | (simp; done)) (by first | omega | (simp <;> omega))
              have cc_wq1 := cell_keep (p := ⟨wo.heap.size, 1, none⟩) (v := .int .i64 h1) hb1 (by first | assumption | (go_keep; done) | (go_simp; done) | (simp; done)) (by first | omega | (simp <;> omega))
              have cc_wq2 := cell_keep (p := ⟨wo.heap.size, 2, none⟩) (v := .int .i64 h2) hb1 (by first | assumption | (go_keep; done) | (go_simp; done) | (simp; done)) (by first | omega | (simp <;> omega))
              have cc_wq3 := cell_keep (p := ⟨g, (j*3), none⟩) (v := .int .i64 y0) hb1 (by first | assumption | (go_keep; done) | (go_simp; done) | (simp; done)) (by first | omega | (simp <;> omega))
              have cc_wq4 := cell_keep (p := ⟨g, (j*3+1), none⟩) (v := .int .i64 y1) hb1 (by first | assumption | (go_keep; done) | (go_simp; done) | (simp; done)) (by first | omega | (simp <;> omega))
              have cc_wq5 := cell_keep (p := ⟨g, (j*3+2), none⟩) (v := .int .i64 y2) hb1 (by first | assumption | (go_keep; done) | (go_simp; done) | (simp; done)) (by first | omega | (simp <;> omega))
              have hS1_wq : Below w.heap.size w wq := S_below hb1 (by repeat (first | exact Below.refl _ _ | assumption | refine below_drewN ?_ _ | refine Below.drew ?_ | refine Below.alloc ?_ (by first | omega | (simp <;> omega)) _ | refine Below.setCell ?_ (by first | omega | (simp <;> omega)) _)) (by first | omega | (simp <;> omega))
              have hz1_wq : w.heap.size ≤ wq.heap.size := S_size hb1 (by first | omega | (simp <;> omega))
              have hqb_wq0 : wo.heap.size < wq.heap.size := S_lt hb1 (by first | omega | (simp <;> omega))
              have hqb_wq1 : g < wq.heap.size := S_lt hb1 (by first | omega | (simp <;> omega))
              clear hb1
              go_wp2_with fail
              try simp only [List.append_eq, List.cons_append, List.nil_append]
              refine wp_region_qb (by kernel_rfl) (by kernel_rfl) (fun W_q hW_q => ?_)
              have kq0 : ∀ d_ os_, (Sort.grow (redrawn W_q d_) os_).cell? ⟨wo.heap.size, 0, none⟩ = some (.int .i64 h0) := fun d_ os_ => cell_regrown (by rw [hW_q.out]; first | assumption | (go_keep; done) | (go_simp; done) | (simp; done)) d_ os_
              have kq1 : ∀ d_ os_, (Sort.grow (redrawn W_q d_) os_).cell? ⟨wo.heap.size, 1, none⟩ = some (.int .i64 h1) := fun d_ os_ => cell_regrown (by rw [hW_q.out]; first | assumption | (go_keep; done) | (go_simp; done) | (simp; done)) d_ os_
              have kq2 : ∀ d_ os_, (Sort.grow (redrawn W_q d_) os_).cell? ⟨wo.heap.size, 2, none⟩ = some (.int .i64 h2) := fun d_ os_ => cell_regrown (by rw [hW_q.out]; first | assumption | (go_keep; done) | (go_simp; done) | (simp; done)) d_ os_
              have kq3 : ∀ d_ os_, (Sort.grow (redrawn W_q d_) os_).cell? ⟨g, (j*3), none⟩ = some (.int .i64 y0) := fun d_ os_ => cell_regrown (by rw [hW_q.out]; first | assumption | (go_keep; done) | (go_simp; done) | (simp; done)) d_ os_
              have kq4 : ∀ d_ os_, (Sort.grow (redrawn W_q d_) os_).cell? ⟨g, (j*3+1), none⟩ = some (.int .i64 y1) := fun d_ os_ => cell_regrown (by rw [hW_q.out]; first | assumption | (go_keep; done) | (go_simp; done) | (simp; done)) d_ os_
              have kq5 : ∀ d_ os_, (Sort.grow (redrawn W_q d_) os_).cell? ⟨g, (j*3+2), none⟩ = some (.int .i64 y2) := fun d_ os_ => cell_regrown (by rw [hW_q.out]; first | assumption | (go_keep; done) | (go_simp; done) | (simp; done)) d_ os_
              repeat (go_big_quiet_step (first | (go_at_call 80; with_reducible exact Calls.regrown_of (sSame_is HY.out HH.out HV2.out _))))
              refine wpQuiet_nil ?_
              intro _ hw_q
              obtain ⟨⟨dq_, osq_⟩, hw_q⟩ := hw_q
              subst hw_q
              have hb1 := below_regrown W_q dq_ osq_
              clear kq0 kq1 kq2 kq3 kq4 kq5
              generalize Sort.grow (redrawn W_q dq_) osq_ = wp at *
              have hW_q := hW_q.out
              subst hW_q
              have HO3 := Lib.hid (HO3.out.kept hb1)
              have cc_wp0 := cell_keep (p := ⟨wo.heap.size, 0, none⟩) (v := .int .i64 h0) hb1 (by first | assumption | (go_keep; done) | (go_simp; done) | (simp; done)) (by first | omega | (simp <;> omega))
              have cc_wp1 := cell_keep (p := ⟨wo.heap.size, 1, none⟩) (v := .int .i64 h1) hb1 (by first | assumption | (go_keep; done) | (go_simp; done) | (simp; done)) (by first | omega | (simp <;> omega))
              have cc_wp2 := cell_keep (p := ⟨wo.heap.size, 2, none⟩) (v := .int .i64 h2) hb1 (by first | assumption | (go_keep; done) | (go_simp; done) | (simp; done)) (by first | omega | (simp <;> omega))
              have cc_wp3 := cell_keep (p := ⟨g, (j*3), none⟩) (v := .int .i64 y0) hb1 (by first | assumption | (go_keep; done) | (go_simp; done) | (simp; done)) (by first | omega | (simp <;> omega))
              have cc_wp4 := cell_keep (p := ⟨g, (j*3+1), none⟩) (v := .int .i64 y1) hb1 (by first | assumption | (go_keep; done) | (go_simp; done) | (simp; done)) (by first | omega | (simp <;> omega))
              have cc_wp5 := cell_keep (p := ⟨g, (j*3+2), none⟩) (v := .int .i64 y2) hb1 (by first | assumption | (go_keep; done) | (go_simp; done) | (simp; done)) (by first | omega | (simp <;> omega))
              have hS1_wp : Below w.heap.size w wp := S_below hb1 (by repeat (first | exact Below.refl _ _ | assumption | refine below_drewN ?_ _ | refine Below.drew ?_ | refine Below.alloc ?_ (by first | omega | (simp <;> omega)) _ | refine Below.setCell ?_ (by first | omega | (simp <;> omega)) _)) (by first | omega | (simp <;> omega))
              have hz1_wp : w.heap.size ≤ wp.heap.size := S_size hb1 (by first | omega | (simp <;> omega))
              have hqb_wp0 : wo.heap.size < wp.heap.size := S_lt hb1 (by first | omega | (simp <;> omega))
              have hqb_wp1 : g < wp.heap.size := S_lt hb1 (by first | omega | (simp <;> omega))
              clear hb1
              obtain ⟨t, ht⟩ : ∃ t, tgH (y0, y1, y2) (h0, h1, h2) = t := ⟨_, rfl⟩
              rw [ht] at HI
              obtain ⟨t0, t1, t2⟩ := t
              have HT := Lib.hid ht; clear ht
              go_upto_region 9 with fail
              go_cut [40] (fun s40 wx => RowKit.Hid (OwnH wx w.heap.size (.slice (some ⟨g, 0, none⟩) L.length cv) (L.set j (t0, t1, t2))) ∧ Below w.heap.size w wx)
              case first =>
                go_region_with (first
                  | (go_at_call 81; (with_reducible refine (sTighter_is HY.out HH.out HV2.out HT.out _).mono ?_); rintro e w_a ⟨rfl, hb_a⟩; go_loud (have HOa := Lib.hid ((HO3.out.drew).kept hb_a); have x0 := cell_keep hb_a cc_wp3 hqb_wp1; have x1 := cell_keep hb_a cc_wp4 hqb_wp1; have x2 := cell_keep hb_a cc_wp5 hqb_wp1; have zz0 := HOa.out.frz (j * 3); have zz1 := HOa.out.frz (j * 3 + 1); have zz2 := HOa.out.frz (j * 3 + 2); have hba : Below w.heap.size w w_a := hS1_wp.drew.trans (hb_a.mono hz1_wp); clear hb_a)))
                all_goals
                  go_wp2_with fail
                  go_meet
                  exact HOa.out.put3 rfl hlj (t0, t1, t2) rfl hba (Below.size hba) hgB
              case rest =>
                obtain ⟨HO4, hb4⟩ := hcut
                go_wp2_with fail
                go_roundw
                case rel => exact ⟨k + 1, L.set j (t0, t1, t2), some ⟨g, 0, none⟩, cv, by omega, by go_num, by rw [List.length_set], by rw [List.length_set]; omega, (by show _ = _; rw [HS.out, ← HL.out, HI.out]), (by rw [List.length_set]; exact HO4), (by show ∀ x ∈ _, _; rw [← HI.out]; exact insH_ok HX.out HH.out), hb4⟩
                case measure => simp [intOf]; omega
          · have HP2 := hstep hv
            have HV := Lib.hid hv
            clear hstep hmid hsame hv
            go_wp2_with fail
            try simp only [List.append_eq, List.cons_append, List.nil_append]
            refine wp_region_qb (by kernel_rfl) (by kernel_rfl) (fun W_q hW_q => ?_)
            have kq0 : ∀ d_ os_, (Sort.grow (redrawn W_q d_) os_).cell? ⟨wo.heap.size, 0, none⟩ = some (.int .i64 h0) := fun d_ os_ => cell_regrown (by rw [hW_q.out]; first | assumption | (go_keep; done) | (go_simp; done) | (simp; done)) d_ os_
            have kq1 : ∀ d_ os_, (Sort.grow (redrawn W_q d_) os_).cell? ⟨wo.heap.size, 1, none⟩ = some (.int .i64 h1) := fun d_ os_ => cell_regrown (by rw [hW_q.out]; first | assumption | (go_keep; done) | (go_simp; done) | (simp; done)) d_ os_
            have kq2 : ∀ d_ os_, (Sort.grow (redrawn W_q d_) os_).cell? ⟨wo.heap.size, 2, none⟩ = some (.int .i64 h2) := fun d_ os_ => cell_regrown (by rw [hW_q.out]; first | assumption | (go_keep; done) | (go_simp; done) | (simp; done)) d_ os_
            have kq3 : ∀ d_ os_, (Sort.grow (redrawn W_q d_) os_).cell? ⟨g, (j*3), none⟩ = some (.int .i64 y0) := fun d_ os_ => cell_regrown (by rw [hW_q.out]; first | assumption | (go_keep; done) | (go_simp; done) | (simp; done)) d_ os_
            have kq4 : ∀ d_ os_, (Sort.grow (redrawn W_q d_) os_).cell? ⟨g, (j*3+1), none⟩ = some (.int .i64 y1) := fun d_ os_ => cell_regrown (by rw [hW_q.out]; first | assumption | (go_keep; done) | (go_simp; done) | (simp; done)) d_ os_
            have kq5 : ∀ d_ os_, (Sort.grow (redrawn W_q d_) os_).cell? ⟨g, (j*3+2), none⟩ = some (.int .i64 y2) := fun d_ os_ => cell_regrown (by rw [hW_q.out]; first | assumption | (go_keep; done) | (go_simp; done) | (simp; done)) d_ os_
            repeat (go_big_quiet_step (first | (go_at_call 79; with_reducible exact Calls.regrown_of (sBefore_is HY.out HH.out HV.out _))))
            refine wpQuiet_nil ?_
            intro _ hw_q
            obtain ⟨⟨dq_, osq_⟩, hw_q⟩ := hw_q
            subst hw_q
            have hb1 := below_regrown W_q dq_ osq_
            clear kq0 kq1 kq2 kq3 kq4 kq5
            generalize Sort.grow (redrawn W_q dq_) osq_ = wq at *
            have hW_q := hW_q.out
            subst hW_q
            have HO3 := Lib.hid (HO2.out.kept hb1)
            have cc_wq0 := cell_keep (p := ⟨wo.heap.size, 0, none⟩) (v := .int .i64 h0) hb1 (by first | assumption | (go_keep; done) | (go_simp; done) | (simp; done)) (by first | omega | (simp <;> omega))
            have cc_wq1 := cell_keep (p := ⟨wo.heap.size, 1, none⟩) (v := .int .i64 h1) hb1 (by first | assumption | (go_keep; done) | (go_simp; done) | (simp; done)) (by first | omega | (simp <;> omega))
            have cc_wq2 := cell_keep (p := ⟨wo.heap.size, 2, none⟩) (v := .int .i64 h2) hb1 (by first | assumption | (go_keep; done) | (go_simp; done) | (simp; done)) (by first | omega | (simp <;> omega))
            have cc_wq3 := cell_keep (p := ⟨g, (j*3), none⟩) (v := .int .i64 y0) hb1 (by first | assumption | (go_keep; done) | (go_simp; done) | (simp; done)) (by first | omega | (simp <;> omega))
            have cc_wq4 := cell_keep (p := ⟨g, (j*3+1), none⟩) (v := .int .i64 y1) hb1 (by first | assumption | (go_keep; done) | (go_simp; done) | (simp; done)) (by first | omega | (simp <;> omega))
            have cc_wq5 := cell_keep (p := ⟨g, (j*3+2), none⟩) (v := .int .i64 y2) hb1 (by first | assumption | (go_keep; done) | (go_simp; done) | (simp; done)) (by first | omega | (simp <;> omega))
            have hS1_wq : Below w.heap.size w wq := S_below hb1 (by repeat (first | exact Below.refl _ _ | assumption | refine below_drewN ?_ _ | refine Below.drew ?_ | refine Below.alloc ?_ (by first | omega | (simp <;> omega)) _ | refine Below.setCell ?_ (by first | omega | (simp <;> omega)) _)) (by first | omega | (simp <;> omega))
            have hz1_wq : w.heap.size ≤ wq.heap.size := S_size hb1 (by first | omega | (simp <;> omega))
            have hqb_wq0 : wo.heap.size < wq.heap.size := S_lt hb1 (by first | omega | (simp <;> omega))
            have hqb_wq1 : g < wq.heap.size := S_lt hb1 (by first | omega | (simp <;> omega))
            clear hb1
            go_wp2_with fail
            go_roundw
            case rel => exact ⟨j + 1, by omega, by go_num, HP2, HO3, cc_wq0, cc_wq1, cc_wq2, hqb_wq0, hS1_wq⟩
            case measure => simp [intOf]; omega
        · have hjl : j = L.length := by omega
          have HI := Lib.hid (insH_end HP.out hjl)
          clear hjl
          have hlj' : ¬ (j : Int) < (L.length : Int) := by omega
          go_wp2_with fail
          try simp only [List.append_eq, List.cons_append, List.nil_append]
          refine wp_region_qb (by kernel_rfl) (by kernel_rfl) (fun W_q hW_q => ?_)
          have kq0 : ∀ d_ os_, (Sort.grow (redrawn W_q d_) os_).cell? ⟨wo.heap.size, 0, none⟩ = some (.int .i64 h0) := fun d_ os_ => cell_regrown (by rw [hW_q.out]; first | assumption | (go_keep; done) | (go_simp; done) | (simp; done)) d_ os_
          have kq1 : ∀ d_ os_, (Sort.grow (redrawn W_q d_) os_).cell? ⟨wo.heap.size, 1, none⟩ = some (.int .i64 h1) := fun d_ os_ => cell_regrown (by rw [hW_q.out]; first | assumption | (go_keep; done) | (go_simp; done) | (simp; done)) d_ os_
          have kq2 : ∀ d_ os_, (Sort.grow (redrawn W_q d_) os_).cell? ⟨wo.heap.size, 2, none⟩ = some (.int .i64 h2) := fun d_ os_ => cell_regrown (by rw [hW_q.out]; first | assumption | (go_keep; done) | (go_simp; done) | (simp; done)) d_ os_
          repeat (go_big_quiet_step (fail))
          refine wpQuiet_nil ?_
          intro _ hw_q
          obtain ⟨⟨dq_, osq_⟩, hw_q⟩ := hw_q
          subst hw_q
          have hb1 := below_regrown W_q dq_ osq_
          clear kq0 kq1 kq2
          generalize Sort.grow (redrawn W_q dq_) osq_ = wq at *
          have hW_q := hW_q.out
          subst hW_q
          have HO3 := Lib.hid (HO2.out.kept hb1)
          have cc_wq0 := cell_keep (p := ⟨wo.heap.size, 0, none⟩) (v := .int .i64 h0) hb1 (by first | assumption | (go_keep; done) | (go_simp; done) | (simp; done)) (by first | omega | (simp <;> omega))
          have cc_wq1 := cell_keep (p := ⟨wo.heap.size, 1, none⟩) (v := .int .i64 h1) hb1 (by first | assumption | (go_keep; done) | (go_simp; done) | (simp; done)) (by first | omega | (simp <;> omega))
          have cc_wq2 := cell_keep (p := ⟨wo.heap.size, 2, none⟩) (v := .int .i64 h2) hb1 (by first | assumption | (go_keep; done) | (go_simp; done) | (simp; done)) (by first | omega | (simp <;> omega))
          have hS1_wq : Below w.heap.size w wq := S_below hb1 (by repeat (first | exact Below.refl _ _ | assumption | refine below_drewN ?_ _ | refine Below.drew ?_ | refine Below.alloc ?_ (by first | omega | (simp <;> omega)) _ | refine Below.setCell ?_ (by first | omega | (simp <;> omega)) _)) (by first | omega | (simp <;> omega))
          have hz1_wq : w.heap.size ≤ wq.heap.size := S_size hb1 (by first | omega | (simp <;> omega))
          have hqb_wq0 : wo.heap.size < wq.heap.size := S_lt hb1 (by first | omega | (simp <;> omega))
          clear hb1
          go_wp2_with fail
          try simp only [List.append_eq, List.cons_append, List.nil_append]
          refine wp_region_qb (by kernel_rfl) (by kernel_rfl) (fun W_q hW_q => ?_)
          have kq0 : ∀ d_ os_, (Sort.grow (redrawn W_q d_) os_).cell? ⟨wo.heap.size, 0, none⟩ = some (.int .i64 h0) := fun d_ os_ => cell_regrown (by rw [hW_q.out]; first | assumption | (go_keep; done) | (go_simp; done) | (simp; done)) d_ os_
          have kq1 : ∀ d_ os_, (Sort.grow (redrawn W_q d_) os_).cell? ⟨wo.heap.size, 1, none⟩ = some (.int .i64 h1) := fun d_ os_ => cell_regrown (by rw [hW_q.out]; first | assumption | (go_keep; done) | (go_simp; done) | (simp; done)) d_ os_
          have kq2 : ∀ d_ os_, (Sort.grow (redrawn W_q d_) os_).cell? ⟨wo.heap.size, 2, none⟩ = some (.int .i64 h2) := fun d_ os_ => cell_regrown (by rw [hW_q.out]; first | assumption | (go_keep; done) | (go_simp; done) | (simp; done)) d_ os_
          repeat (go_big_quiet_step (fail))
          refine wpQuiet_nil ?_
          intro _ hw_q
          obtain ⟨⟨dq_, osq_⟩, hw_q⟩ := hw_q
          subst hw_q
          have hb1 := below_regrown W_q dq_ osq_
          clear kq0 kq1 kq2
          generalize Sort.grow (redrawn W_q dq_) osq_ = wp at *
          have hW_q := hW_q.out
          subst hW_q
          have HO3 := Lib.hid (HO3.out.kept hb1)
          have cc_wp0 := cell_keep (p := ⟨wo.heap.size, 0, none⟩) (v := .int .i64 h0) hb1 (by first | assumption | (go_keep; done) | (go_simp; done) | (simp; done)) (by first | omega | (simp <;> omega))
          have cc_wp1 := cell_keep (p := ⟨wo.heap.size, 1, none⟩) (v := .int .i64 h1) hb1 (by first | assumption | (go_keep; done) | (go_simp; done) | (simp; done)) (by first | omega | (simp <;> omega))
          have cc_wp2 := cell_keep (p := ⟨wo.heap.size, 2, none⟩) (v := .int .i64 h2) hb1 (by first | assumption | (go_keep; done) | (go_simp; done) | (simp; done)) (by first | omega | (simp <;> omega))
          have hS1_wp : Below w.heap.size w wp := S_below hb1 (by repeat (first | exact Below.refl _ _ | assumption | refine below_drewN ?_ _ | refine Below.drew ?_ | refine Below.alloc ?_ (by first | omega | (simp <;> omega)) _ | refine Below.setCell ?_ (by first | omega | (simp <;> omega)) _)) (by first | omega | (simp <;> omega))
          have hz1_wp : w.heap.size ≤ wp.heap.size := S_size hb1 (by first | omega | (simp <;> omega))
          have hqb_wp0 : wo.heap.size < wp.heap.size := S_lt hb1 (by first | omega | (simp <;> omega))
          clear hb1
          have hL1 : L.length + 1 ≤ 2097152 := by omega
          go_wp2_with (first
            | (at_builtin; refine wpList_appendH rfl (.tmp 50) (.tmp 52) rfl (HO3.out.kept ((Below.refl _ _).alloc (Nat.le_refl _) _)) rfl rfl (M := [(0, 0, 0)]) rfl (hsAt_new _ _ _ _ _) hL1 (Nat.le_trans hz1_wp (Nat.le_of_lt (new_lt _ _))) ?_; intro v2 w2 hap; obtain ⟨g2, c2, rfl, hg2B, hg2⟩ := hap.shape (k := 1) rfl Nat.one_pos))
          have hB2 : Below w.heap.size w w2 := hap.below (HO3.out.kept ((Below.refl _ _).alloc (Nat.le_refl _) _)) (hS1_wp.alloc hz1_wp _) (Nat.le_trans hz1_wp (Nat.le_of_lt (new_lt _ _)))
          obtain ⟨hne2, hcell2⟩ := hap.other (b := wo.heap.size) (by rw [World.size_alloc]; omega) (far_of HO.out (Nat.le_refl _))
          have q0 := hcell2 _ _ ((World.cell?_alloc_lt wp _ ⟨wo.heap.size, 0, none⟩ (by simp; omega)).trans cc_wp0)
          have q1 := hcell2 _ _ ((World.cell?_alloc_lt wp _ ⟨wo.heap.size, 1, none⟩ (by simp; omega)).trans cc_wp1)
          have q2 := hcell2 _ _ ((World.cell?_alloc_lt wp _ ⟨wo.heap.size, 2, none⟩ (by simp; omega)).trans cc_wp2)
          have hz2' : wo.heap.size + 1 ≤ w2.heap.size := by have := hap.2.1.size; rw [World.size_alloc] at this; omega
          have hne3 : ¬ g2 = wo.heap.size := fun e => hne2 (by rw [e]; rfl)
          have HO4 := Lib.hid hap.1
          clear hap hne2 hcell2
          go_loopw [7] (fun q wr => ∃ (m : Nat) (x : Hp), q = .int .i64 m ∧ j ≤ m ∧ m ≤ L.length ∧ RowKit.Hid (OwnH wr w.heap.size (.slice (some ⟨g2, 0, none⟩) (L.length + 1) c2) (L.take m ++ x :: L.drop m)) ∧ wr.cell? ⟨wo.heap.size, 0, none⟩ = some (.int .i64 h0) ∧ wr.cell? ⟨wo.heap.size, 1, none⟩ = some (.int .i64 h1) ∧ wr.cell? ⟨wo.heap.size, 2, none⟩ = some (.int .i64 h2) ∧ wo.heap.size + 1 ≤ wr.heap.size ∧ Below w.heap.size w wr) (fun q _ => (intOf q).toNat)
          case atStart => exact ⟨L.length, (0, 0, 0), rfl, hj, Nat.le_refl _, (by have := HO4.out; simpa [RowKit.Hid] using this), q0, q1, q2, hz2', hB2⟩
          case round =>
            obtain ⟨m, x, rfl, hm1, hm2, HO5, r0, r1, r2, hz5, hb5⟩ := hrel
            have hlen := shift_len x hm2
            have hsz5 := hb5.size
            obtain ⟨⟨e0, e1, e2⟩, f0, f1, f2⟩ := HO5.out.at3' (shift_self x hm2)
            obtain ⟨x0, x1, x2⟩ := x
            simp only at e0 e1 e2
            by_cases hjm : j < m
            · (exfalso; omega)
              all_goals
                have hmm : m - 1 < L.length := by omega
                obtain ⟨⟨s0, s1, s2⟩, _⟩ := HO5.out.at3' (shift_get (x0, x1, x2) (by omega : 0 < m) hm2)
                obtain ⟨P1, P2⟩ := HO5.out.put3 (k := m) hlen.symm (by omega) L[m - 1] (shift_step (x0, x1, x2) (by omega) hm2) hb5 hsz5 hg2B
                generalize L[m - 1] = z at *
                obtain ⟨z0, z1, z2⟩ := z
                simp only at s0 s1 s2 P1 P2
                have P1 := Lib.hid P1
                have P2 := Lib.hid P2
                go_wp2_with fail
                go_roundw
                case rel => exact ⟨m - 1, (z0, z1, z2), by go_num, by omega, by omega, P1, by first | (go_keep; done) | (go_simp; done) | (simp; done), by first | (go_keep; done) | (go_simp; done) | (simp; done), by first | (go_keep; done) | (go_simp; done) | (simp; done), by simp; omega, P2⟩
                case measure => simp [intOf]; omega
            · have hjm' : m = j := by omega
              subst hjm'
              obtain ⟨P1, P2⟩ := HO5.out.put3 (k := m) hlen.symm (by omega) (h0, h1, h2) (shift_set (x0, x1, x2) (h0, h1, h2) hm2) hb5 hsz5 hg2B
              simp only at P1 P2
              have P1 := Lib.hid P1
              have P2 := Lib.hid P2
              go_wp2_with fail
              go_roundw
              case rel => exact ⟨k + 1, L.take m ++ (h0, h1, h2) :: L.drop m, some ⟨g2, 0, none⟩, c2, by omega, by go_num, by rw [shift_len _ hm2], by rw [shift_len _ hm2]; omega, (by show _ = _; rw [HS.out, ← HL.out, HI.out]), (by have := P1.out; rw [shift_len _ hm2]; exact this), (by show ∀ x ∈ _, _; rw [← HI.out]; exact insH_ok HX.out HH.out), P2⟩
              case measure => simp [intOf]; omega
    · have hk' : k = n := by omega
      subst hk'
      go_wp2_with fail
      go_ret
      refine ⟨_, rfl, ?_, hb⟩
      have e : sortH hs = L := by rw [HL.out, List.take_of_length_le (by have := HN.out; omega)]
      rw [e]; exact HO.out

end Go.Proofs.Ythdaoadleeelnaa
