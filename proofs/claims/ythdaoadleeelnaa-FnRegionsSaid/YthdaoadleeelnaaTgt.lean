/- tightest of the program: the half planes sorted by angle. -/
import Derived.Test.YthdaoadleeelnaaIns
import Derived.Test.YthdaoadleeelnaaRn2
namespace Go.Proofs.Ythdaoadleeelnaa
open Go.ChangeShapes Go.WideShapes Go.ChangeAt Go.RowKit
attribute [local go_sem ↓] Go.wp_at_zero Go.wp_at_succ
set_option linter.unusedVariables false

theorem iBefore_is {a b c a' b' c' : Int} {v : Bool} (hg : okH (a, b, c) = true) (hh : okH (a', b', c') = true) (hv : befH (a, b, c) (a', b', c') = v) (w : World) :
    Calls Try.prog 86 #[.agg #[.int .i64 a, .int .i64 b, .int .i64 c], .agg #[.int .i64 a', .int .i64 b', .int .i64 c']] w fun e w' => e = .returned (.bool v) ∧ Below w.heap.size w w' := by
  have b1 := okH_bounds hg
  have b2 := okH_bounds hh
  have e : befV a b a' b' = v := hv
  rw [← e]; exact beforeAngle_any a b c a' b' c' w b1.1 b1.2.1 b2.1 b2.2.1

theorem iSame_is {a b c a' b' c' : Int} {v : Bool} (hg : okH (a, b, c) = true) (hh : okH (a', b', c') = true) (hv : sdH (a, b, c) (a', b', c') = v) (w : World) :
    Calls Try.prog 87 #[.agg #[.int .i64 a, .int .i64 b, .int .i64 c], .agg #[.int .i64 a', .int .i64 b', .int .i64 c']] w fun e w' => e = .returned (.bool v) ∧ Below w.heap.size w w' := by
  have b1 := okH_bounds hg
  have b2 := okH_bounds hh
  have e : sdV a b a' b' = v := hv
  rw [← e]; exact sameDirection_any a b c a' b' c' w b1.1 b1.2.1 b2.1 b2.2.1

theorem iTighter_is {a b c a' b' c' t0 t1 t2 : Int} (hg : okH (a, b, c) = true) (hh : okH (a', b', c') = true) (hs : sdH (a, b, c) (a', b', c') = true) (ht : tgH (a, b, c) (a', b', c') = (t0, t1, t2)) (w : World) :
    Calls Try.prog 88 #[.agg #[.int .i64 a, .int .i64 b, .int .i64 c], .agg #[.int .i64 a', .int .i64 b', .int .i64 c']] w fun e w' => e = .returned (.agg #[.int .i64 t0, .int .i64 t1, .int .i64 t2]) ∧ Below w.heap.size w w' := by
  obtain ⟨e1, e2, e3⟩ := tg_parts hg hh hs ht
  have := iTighterHalf_any a b c a' b' c' w
  simp only at e1 e2 e3
  rw [e1, e2, e3] at this
  exact this

theorem insertH_to {A : Option Addr} {b c B i : Nat} {L M : List Hp} {h : Hp} {w : World} (hM : L.take i ++ h :: L.drop i = M) (hO : OwnH w B (.slice A L.length c) L) (hB : B ≤ w.heap.size) (hi : i ≤ L.length) (hne : (Value.slice A L.length c).ownBlock ≠ some b)
    (hb : w.heap[b]? = some (.cells (flatH [h]).toArray 57 (0, 0))) (hs : L.length ≤ 2000000) :
    Calls Try.prog 89 #[.slice A L.length c, .int .i64 i, .slice (some ⟨b, 0, none⟩) 1 1] w (Insd B w M) := by
  subst hM; exact insertH_any hO hB hi hne hb hs

set_option maxHeartbeats 1000000 in
set_option maxRecDepth 100000 in
theorem tightest_any (A : Option Addr) (n c : Nat) (hs : List Hp) (w : World) (hn : n = hs.length) (hA : HsAt w w.heap.size A hs) (hm : n ≤ 1048576) (hok : ∀ h ∈ hs, okH h = true) :
    Calls Try.prog 68 #[.slice A n c] w fun e w' => ∃ v, e = .returned v ∧ OwnH w' w.heap.size v (sortH hs) ∧ Below w.heap.size w w' := by
  have HA := Lib.hid hA; clear hA
  have HN := Lib.hid hn; clear hn
  have HK := Lib.hid hok; clear hok
  obtain ⟨i0, hi0, hz0, hz1, hz2⟩ := info_parts infoH
  go_enter Try.func68, Try.ntmps68
  go_wp2_with fail
  go_loopw [3, 9] (fun v i wr => ∃ (k : Nat) (L : List Hp) (Av : Option Addr) (cv : Nat), k ≤ n ∧ i = .int .i64 k ∧ v = .slice Av L.length cv ∧ L.length ≤ k ∧ RowKit.Hid (L = sortH (hs.take k)) ∧ RowKit.Hid (OwnH wr w.heap.size (.slice Av L.length cv) L) ∧ RowKit.Hid (∀ x ∈ L, okH x = true) ∧ Below w.heap.size w wr) (fun _ i _ => n - (intOf i).toNat)
  case atStart =>
    exact ⟨0, [], none, 0, Nat.zero_le _, rfl, rfl, Nat.le_refl _, rfl, World.ownsRow_nil _ _ _ _, (fun x hx => nomatch hx), Below.refl _ _⟩
  case round =>
    obtain ⟨k, L, Av, cv, hk, rfl, rfl, hLk, HL, HO, HX, hb⟩ := hrel
    have hsz := hb.size
    by_cases hlt : k < n
    · have hl1 : k < hs.length := by have := HN.out; omega
      obtain ⟨b, off, rfl, hlb, c0, c1, c2⟩ := (HA.out.below hb).at_ hl1
      have hlb' : b < wr.heap.size := by omega
      have HS := Lib.hid (sortH_step hl1)
      have hh := HK.out _ (List.getElem_mem hl1)
      generalize hs[k] = h at *
      obtain ⟨h0, h1, h2⟩ := h
      simp only at c0 c1 c2
      have HH := Lib.hid hh; clear hh
      rename World => wo
      go_wp2_with fail
      go_loopw [6] (fun j wr => ∃ j' : Nat, j' ≤ L.length ∧ j = .int .i64 j' ∧ RowKit.Hid (AtPl L (h0, h1, h2) j') ∧ RowKit.Hid (OwnH wr w.heap.size (.slice Av L.length cv) L) ∧ wr.cell? ⟨wo.heap.size, 0, none⟩ = some (.int .i64 h0) ∧ wr.cell? ⟨wo.heap.size, 1, none⟩ = some (.int .i64 h1) ∧ wr.cell? ⟨wo.heap.size, 2, none⟩ = some (.int .i64 h2) ∧ wo.heap.size + 1 ≤ wr.heap.size ∧ Below w.heap.size w wr) (fun j _ => L.length - (intOf j).toNat)
      case atStart => exact ⟨0, Nat.zero_le _, rfl, atPl_zero _ _, HO.out.kept ((Below.refl _ _).alloc (Nat.le_refl _) _), by first | (go_simp; done) | (simp; done), by first | (go_simp; done) | (simp; done), by first | (go_simp; done) | (simp; done), by simp, (by repeat (first | exact Below.refl _ _ | assumption | refine below_drewN ?_ _ | refine Below.drew ?_ | refine Below.alloc ?_ (by first | omega | (simp <;> omega)) _ | refine Below.setCell ?_ (by first | omega | (simp <;> omega)) _))⟩
      case round =>
        obtain ⟨j, hj, rfl, HP, HO2, p0, p1, p2, hz, hb2⟩ := hrel
        by_cases hlj : j < L.length
        · obtain ⟨g, rfl, hgB, hgw, ⟨d0, d1, d2⟩, z0, z1, z2⟩ := HO2.out.at3 hlj
          have hlj' : (j : Int) < (L.length : Int) := by omega
          have hstep := fun e => Lib.hid (atPl_step HP.out hlj e)
          have hmid := fun e e' => Lib.hid (insH_mid HP.out hlj e e')
          have hsame := fun e e' => Lib.hid (insH_same HP.out hlj e e')
          have hy := HX.out _ (List.getElem_mem hlj)
          generalize L[j] = y at *
          obtain ⟨y0, y1, y2⟩ := y
          simp only at d0 d1 d2
          have HY := Lib.hid hy; clear hy
          cases hv : befH (y0, y1, y2) (h0, h1, h2)
          · have HV := Lib.hid hv
            cases hv2 : sdH (y0, y1, y2) (h0, h1, h2)
            · have HI := hmid hv hv2
              have HV2 := Lib.hid hv2
              clear hstep hmid hsame hv hv2
              go_wp2_with fail
              try simp only [List.append_eq, List.cons_append, List.nil_append]
              refine wp_region_qb (by kernel_rfl) (by kernel_rfl) (fun W_q hW_q => ?_)
              have kq0 : ∀ d_ os_, (Sort.grow (redrawn W_q d_) os_).cell? ⟨wo.heap.size, 0, none⟩ = some (.int .i64 h0) := fun d_ os_ => cell_regrown (by rw [hW_q.out]; first | assumption | (go_keep; done) | (go_simp; done) | (simp; done)) d_ os_
              have kq1 : ∀ d_ os_, (Sort.grow (redrawn W_q d_) os_).cell? ⟨wo.heap.size, 1, none⟩ = some (.int .i64 h1) := fun d_ os_ => cell_regrown (by rw [hW_q.out]; first | assumption | (go_keep; done) | (go_simp; done) | (simp; done)) d_ os_
              have kq2 : ∀ d_ os_, (Sort.grow (redrawn W_q d_) os_).cell? ⟨wo.heap.size, 2, none⟩ = some (.int .i64 h2) := fun d_ os_ => cell_regrown (by rw [hW_q.out]; first | assumption | (go_keep; done) | (go_simp; done) | (simp; done)) d_ os_
              have kq3 : ∀ d_ os_, (Sort.grow (redrawn W_q d_) os_).cell? ⟨g, (j*3), none⟩ = some (.int .i64 y0) := fun d_ os_ => cell_regrown (by rw [hW_q.out]; first | assumption | (go_keep; done) | (go_simp; done) | (simp; done)) d_ os_
              have kq4 : ∀ d_ os_, (Sort.grow (redrawn W_q d_) os_).cell? ⟨g, (j*3+1), none⟩ = some (.int .i64 y1) := fun d_ os_ => cell_regrown (by rw [hW_q.out]; first | assumption | (go_keep; done) | (go_simp; done) | (simp; done)) d_ os_
              have kq5 : ∀ d_ os_, (Sort.grow (redrawn W_q d_) os_).cell? ⟨g, (j*3+2), none⟩ = some (.int .i64 y2) := fun d_ os_ => cell_regrown (by rw [hW_q.out]; first | assumption | (go_keep; done) | (go_simp; done) | (simp; done)) d_ os_
              repeat (go_big_quiet_step (first | (go_at_call 86; with_reducible exact Calls.regrown_of (iBefore_is HY.out HH.out HV.out _))))
              refine wpQuiet_nil ?_
              intro _ hw_q
              obtain ⟨⟨dq_, osq_⟩, hw_q⟩ := hw_q
              subst hw_q
              have hb1 := below_regrown W_q dq_ osq_
              clear kq0 kq1 kq2 kq3 kq4 kq5
              generalize Sort.grow (redrawn W_q dq_) osq_ = wq at *
              have hW_q := hW_q.out
              subst hW_q
              have HO3 := Lib.hid (HO2.out.kept hb1)
              have cc_wq0 := cell_keep (p := ⟨wo.heap.size, 0, none⟩) (v := .int .i64 h0) hb1 (by first | assumption | (go_keep; done) | (go_simp; done) | (simp; done)) (by first | omega | (simp <;> omega))
              have cc_wq1 := cell_keep (p := ⟨wo.heap.size, 1, none⟩) (v := .int .i64 h1) hb1 (by first | assumption | (go_keep; done) | (go_simp; done) | (simp; done)) (by first | omega | (simp <;> omega))
              have cc_wq2 := cell_keep (p := ⟨wo.heap.size, 2, none⟩) (v := .int .i64 h2) hb1 (by first | assumption | (go_keep; done) | (go_simp; done) | (simp; done)) (by first | omega | (simp <;> omega))
              have cc_wq3 := cell_keep (p := ⟨g, (j*3), none⟩) (v := .int .i64 y0) hb1 (by first | assumption | (go_keep; done) | (go_simp; done) | (simp; done)) (by first | omega | (simp <;> omega))
              have cc_wq4 := cell_keep (p := ⟨g, (j*3+1), none⟩) (v := .int .i64 y1) hb1 (by first | assumption | (go_keep; done) | (go_simp; done) | (simp; done)) (by first | omega | (simp <;> omega))
              have cc_wq5 := cell_keep (p := ⟨g, (j*3+2), none⟩) (v := .int .i64 y2) hb1 (by first | assumption | (go_keep; done) | (go_simp; done) | (simp; done)) (by first | omega | (simp <;> omega))
              have hS1_wq : Below w.heap.size w wq := S_below hb1 (by repeat (first | exact Below.refl _ _ | assumption | refine below_drewN ?_ _ | refine Below.drew ?_ | refine Below.alloc ?_ (by first | omega | (simp <;> omega)) _ | refine Below.setCell ?_ (by first | omega | (simp <;> omega)) _)) (by first | omega | (simp <;> omega))
              have hz1_wq : w.heap.size ≤ wq.heap.size := S_size hb1 (by first | omega | (simp <;> omega))
              have hqb_wq0 : wo.heap.size < wq.heap.size := S_lt hb1 (by first | omega | (simp <;> omega))
              have hqb_wq1 : g < wq.heap.size := S_lt hb1 (by first | omega | (simp <;> omega))
              clear hb1
              go_wp2_with fail
              try simp only [List.append_eq, List.cons_append, List.nil_append]
              refine wp_region_qb (by kernel_rfl) (by kernel_rfl) (fun W_q hW_q => ?_)
              have kq0 : ∀ d_ os_, (Sort.grow (redrawn W_q d_) os_).cell? ⟨wo.heap.size, 0, none⟩ = some (.int .i64 h0) := fun d_ os_ => cell_regrown (by rw [hW_q.out]; first | assumption | (go_keep; done) | (go_simp; done) | (simp; done)) d_ os_
              have kq1 : ∀ d_ os_, (Sort.grow (redrawn W_q d_) os_).cell? ⟨wo.heap.size, 1, none⟩ = some (.int .i64 h1) := fun d_ os_ => cell_regrown (by rw [hW_q.out]; first | assumption | (go_keep; done) | (go_simp; done) | (simp; done)) d_ os_
              have kq2 : ∀ d_ os_, (Sort.grow (redrawn W_q d_) os_).cell? ⟨wo.heap.size, 2, none⟩ = some (.int .i64 h2) := fun d_ os_ => cell_regrown (by rw [hW_q.out]; first | assumption | (go_keep; done) | (go_simp; done) | (simp; done)) d_ os_
              have kq3 : ∀ d_ os_, (Sort.grow (redrawn W_q d_) os_).cell? ⟨g, (j*3), none⟩ = some (.int .i64 y0) := fun d_ os_ => cell_regrown (by rw [hW_q.out]; first | assumption | (go_keep; done) | (go_simp; done) | (simp; done)) d_ os_
              have kq4 : ∀ d_ os_, (Sort.grow (redrawn W_q d_) os_).cell? ⟨g, (j*3+1), none⟩ = some (.int .i64 y1) := fun d_ os_ => cell_regrown (by rw [hW_q.out]; first | assumption | (go_keep; done) | (go_simp; done) | (simp; done)) d_ os_
              have kq5 : ∀ d_ os_, (Sort.grow (redrawn W_q d_) os_).cell? ⟨g, (j*3+2), none⟩ = some (.int .i64 y2) := fun d_ os_ => cell_regrown (by rw [hW_q.out]; first | assumption | (go_keep; done) | (go_simp; done) | (simp; done)) d_ os_
              repeat (go_big_quiet_step (first | (go_at_call 87; with_reducible exact Calls.regrown_of (iSame_is HY.out HH.out HV2.out _))))
              refine wpQuiet_nil ?_
              intro _ hw_q
              obtain ⟨⟨dq_, osq_⟩, hw_q⟩ := hw_q
              subst hw_q
              have hb1 := below_regrown W_q dq_ osq_
              clear kq0 kq1 kq2 kq3 kq4 kq5
              generalize Sort.grow (redrawn W_q dq_) osq_ = wp at *
              have hW_q := hW_q.out
              subst hW_q
              have HO3 := Lib.hid (HO3.out.kept hb1)
              have cc_wp0 := cell_keep (p := ⟨wo.heap.size, 0, none⟩) (v := .int .i64 h0) hb1 (by first | assumption | (go_keep; done) | (go_simp; done) | (simp; done)) (by first | omega | (simp <;> omega))
              have cc_wp1 := cell_keep (p := ⟨wo.heap.size, 1, none⟩) (v := .int .i64 h1) hb1 (by first | assumption | (go_keep; done) | (go_simp; done) | (simp; done)) (by first | omega | (simp <;> omega))
              have cc_wp2 := cell_keep (p := ⟨wo.heap.size, 2, none⟩) (v := .int .i64 h2) hb1 (by first | assumption | (go_keep; done) | (go_simp; done) | (simp; done)) (by first | omega | (simp <;> omega))
              have cc_wp3 := cell_keep (p := ⟨g, (j*3), none⟩) (v := .int .i64 y0) hb1 (by first | assumption | (go_keep; done) | (go_simp; done) | (simp; done)) (by first | omega | (simp <;> omega))
              have cc_wp4 := cell_keep (p := ⟨g, (j*3+1), none⟩) (v := .int .i64 y1) hb1 (by first | assumption | (go_keep; done) | (go_simp; done) | (simp; done)) (by first | omega | (simp <;> omega))
              have cc_wp5 := cell_keep (p := ⟨g, (j*3+2), none⟩) (v := .int .i64 y2) hb1 (by first | assumption | (go_keep; done) | (go_simp; done) | (simp; done)) (by first | omega | (simp <;> omega))
              have hS1_wp : Below w.heap.size w wp := S_below hb1 (by repeat (first | exact Below.refl _ _ | assumption | refine below_drewN ?_ _ | refine Below.drew ?_ | refine Below.alloc ?_ (by first | omega | (simp <;> omega)) _ | refine Below.setCell ?_ (by first | omega | (simp <;> omega)) _)) (by first | omega | (simp <;> omega))
              have hz1_wp : w.heap.size ≤ wp.heap.size := S_size hb1 (by first | omega | (simp <;> omega))
              have hqb_wp0 : wo.heap.size < wp.heap.size := S_lt hb1 (by first | omega | (simp <;> omega))
              have hqb_wp1 : g < wp.heap.size := S_lt hb1 (by first | omega | (simp <;> omega))
              clear hb1
              obtain ⟨M, hM⟩ : ∃ M, L.take j ++ (h0, h1, h2) :: L.drop j = M := ⟨_, rfl⟩
              have HM2 := Lib.hid (HI.out.trans hM)
              have hMl : M.length = L.length + 1 := by rw [← hM]; exact shift_len _ hj
              have HM1 := Lib.hid hM
              have HML := Lib.hid hMl
              clear hM hMl
              go_wp2_with (go_at_call 89; refine (insertH_to (h := (h0, h1, h2)) HM1.out (HO3.out.kept ((Below.refl _ _).alloc (Nat.le_refl _) _)) (Nat.le_trans hz1_wp (Nat.le_of_lt (new_lt _ _))) hj (far_of HO3.out (Nat.le_refl _)) (heap_alloc_new wp _) (by omega)).mono ?_; rintro e w2 ⟨A2, c2, rfl, hO4, hb4⟩; have HO4 := Lib.hid hO4; have hB2 : Below w.heap.size w w2 := (hS1_wp.alloc hz1_wp _).trans (hb4.mono (Nat.le_refl _)); clear hO4 hb4)
              go_roundw
              case rel => exact ⟨k + 1, M, A2, c2, by omega, by go_num, rfl, by have := HML.out; omega, (by show _ = _; rw [HS.out, ← HL.out, HM2.out]), HO4, (by show ∀ x ∈ _, _; rw [← HM2.out]; exact insH_ok HX.out HH.out), hB2⟩
              case measure => simp [intOf]; omega
            · have HI := hsame hv hv2
              have HV2 := Lib.hid hv2
              clear hstep hmid hsame hv hv2
              go_wp2_with fail
              try simp only [List.append_eq, List.cons_append, List.nil_append]
              refine wp_region_qb (by kernel_rfl) (by kernel_rfl) (fun W_q hW_q => ?_)
              have kq0 : ∀ d_ os_, (Sort.grow (redrawn W_q d_) os_).cell? ⟨wo.heap.size, 0, none⟩ = some (.int .i64 h0) := fun d_ os_ => cell_regrown (by rw [hW_q.out]; first | assumption | (go_keep; done) | (go_simp; done) | (simp; done)) d_ os_
              have kq1 : ∀ d_ os_, (Sort.grow (redrawn W_q d_) os_).cell? ⟨wo.heap.size, 1, none⟩ = some (.int .i64 h1) := fun d_ os_ => cell_regrown (by rw [hW_q.out]; first | assumption | (go_keep; done) | (go_simp; done) | (simp; done)) d_ os_
              have kq2 : ∀ d_ os_, (Sort.grow (redrawn W_q d_) os_).cell? ⟨wo.heap.size, 2, none⟩ = some (.int .i64 h2) := fun d_ os_ => cell_regrown (by rw [hW_q.out]; first | assumption | (go_keep; done) | (go_simp; done) | (simp; done)) d_ os_
              have kq3 : ∀ d_ os_, (Sort.grow (redrawn W_q d_) os_).cell? ⟨g, (j*3), none⟩ = some (.int .i64 y0) := fun d_ os_ => cell_regrown (by rw [hW_q.out]; first | assumption | (go_keep; done) | (go_simp; done) | (simp; done)) d_ os_
              have kq4 : ∀ d_ os_, (Sort.grow (redrawn W_q d_) os_).cell? ⟨g, (j*3+1), none⟩ = some (.int .i64 y1) := fun d_ os_ => cell_regrown (by rw [hW_q.out]; first | assumption | (go_keep; done) | (go_simp; done) | (simp; done)) d_ os_
              have kq5 : ∀ d_ os_, (Sort.grow (redrawn W_q d_) os_).cell? ⟨g, (j*3+2), none⟩ = some (.int .i64 y2) := fun d_ os_ => cell_regrown (by rw [hW_q.out]; first | assumption | (go_keep; done) | (go_simp; done) | (simp; done)) d_ os_
              repeat (go_big_quiet_step (first | (go_at_call 86; with_reducible exact Calls.regrown_of (iBefore_is HY.out HH.out HV.out _))))
              refine wpQuiet_nil ?_
              intro _ hw_q
              obtain ⟨⟨dq_, osq_⟩, hw_q⟩ := hw_q
              subst hw_q
              have hb1 := below_regrown W_q dq_ osq_
              clear kq0 kq1 kq2 kq3 kq4 kq5
              generalize Sort.grow (redrawn W_q dq_) osq_ = wq at *
              have hW_q := hW_q.out
              subst hW_q
              have HO3 := Lib.hid (HO2.out.kept hb1)
              have cc_wq0 := cell_keep (p := ⟨wo.heap.size, 0, none⟩) (v := .int .i64 h0) hb1 (by first | assumption | (go_keep; done) | (go_simp; done) | (simp; done)) (by first | omega | (simp <;> omega))
              have cc_wq1 := cell_keep (p := ⟨wo.heap.size, 1, none⟩) (v := .int .i64 h1) hb1 (by first | assumption | (go_keep; done) | (go_simp; done) | (simp; done)) (by first | omega | (simp <;> omega))
              have cc_wq2 := cell_keep (p := ⟨wo.heap.size, 2, none⟩) (v := .int .i64 h2) hb1 (by first | assumption | (go_keep; done) | (go_simp; done) | (simp; done)) (by first | omega | (simp <;> omega))
              have cc_wq3 := cell_keep (p := ⟨g, (j*3), none⟩) (v := .int .i64 y0) hb1 (by first | assumption | (go_keep; done) | (go_simp; done) | (simp; done)) (by first | omega | (simp <;> omega))
              have cc_wq4 := cell_keep (p := ⟨g, (j*3+1), none⟩) (v := .int .i64 y1) hb1 (by first | assumption | (go_keep; done) | (go_simp; done) | (simp; done)) (by first | omega | (simp <;> omega))
              have cc_wq5 := cell_keep (p := ⟨g, (j*3+2), none⟩) (v := .int .i64 y2) hb1 (by first | assumption | (go_keep; done) | (go_simp; done) | (simp; done)) (by first | omega | (simp <;> omega))
              have hS1_wq : Below w.heap.size w wq := S_below hb1 (by repeat (first | exact Below.refl _ _ | assumption | refine below_drewN ?_ _ | refine Below.drew ?_ | refine Below.alloc ?_ (by first | omega | (simp <;> omega)) _ | refine Below.setCell ?_ (by first | omega | (simp <;> omega)) _)) (by first | omega | (simp <;> omega))
              have hz1_wq : w.heap.size ≤ wq.heap.size := S_size hb1 (by first | omega | (simp <;> omega))
              have hqb_wq0 : wo.heap.size < wq.heap.size := S_lt hb1 (by first | omega | (simp <;> omega))
              have hqb_wq1 : g < wq.heap.size := S_lt hb1 (by first | omega | (simp <;> omega))
              clear hb1
              go_wp2_with fail
              try simp only [List.append_eq, List.cons_append, List.nil_append]
              refine wp_region_qb (by kernel_rfl) (by kernel_rfl) (fun W_q hW_q => ?_)
              have kq0 : ∀ d_ os_, (Sort.grow (redrawn W_q d_) os_).cell? ⟨wo.heap.size, 0, none⟩ = some (.int .i64 h0) := fun d_ os_ => cell_regrown (by rw [hW_q.out]; first | assumption | (go_keep; done) | (go_simp; done) | (simp; done)) d_ os_
              have kq1 : ∀ d_ os_, (Sort.grow (redrawn W_q d_) os_).cell? ⟨wo.heap.size, 1, none⟩ = some (.int .i64 h1) := fun d_ os_ => cell_regrown (by rw [hW_q.out]; first | assumption | (go_keep; done) | (go_simp; done) | (simp; done)) d_ os_
              have kq2 : ∀ d_ os_, (Sort.grow (redrawn W_q d_) os_).cell? ⟨wo.heap.size, 2, none⟩ = some (.int .i64 h2) := fun d_ os_ => cell_regrown (by rw [hW_q.out]; first | assumption | (go_keep; done) | (go_simp; done) | (simp; done)) d_ os_
              have kq3 : ∀ d_ os_, (Sort.grow (redrawn W_q d_) os_).cell? ⟨g, (j*3), none⟩ = some (.int .i64 y0) := fun d_ os_ => cell_regrown (by rw [hW_q.out]; first | assumption | (go_keep; done) | (go_simp; done) | (simp; done)) d_ os_
              have kq4 : ∀ d_ os_, (Sort.grow (redrawn W_q d_) os_).cell? ⟨g, (j*3+1), none⟩ = some (.int .i64 y1) := fun d_ os_ => cell_regrown (by rw [hW_q.out]; first | assumption | (go_keep; done) | (go_simp; done) | (simp; done)) d_ os_
              have kq5 : ∀ d_ os_, (Sort.grow (redrawn W_q d_) os_).cell? ⟨g, (j*3+2), none⟩ = some (.int .i64 y2) := fun d_ os_ => cell_regrown (by rw [hW_q.out]; first | assumption | (go_keep; done) | (go_simp; done) | (simp; done)) d_ os_
              repeat (go_big_quiet_step (first | (go_at_call 87; with_reducible exact Calls.regrown_of (iSame_is HY.out HH.out HV2.out _))))
              refine wpQuiet_nil ?_
              intro _ hw_q
              obtain ⟨⟨dq_, osq_⟩, hw_q⟩ := hw_q
              subst hw_q
              have hb1 := below_regrown W_q dq_ osq_
              clear kq0 kq1 kq2 kq3 kq4 kq5
              generalize Sort.grow (redrawn W_q dq_) osq_ = wp at *
              have hW_q := hW_q.out
              subst hW_q
              have HO3 := Lib.hid (HO3.out.kept hb1)
              have cc_wp0 := cell_keep (p := ⟨wo.heap.size, 0, none⟩) (v := .int .i64 h0) hb1 (by first | assumption | (go_keep; done) | (go_simp; done) | (simp; done)) (by first | omega | (simp <;> omega))
              have cc_wp1 := cell_keep (p := ⟨wo.heap.size, 1, none⟩) (v := .int .i64 h1) hb1 (by first | assumption | (go_keep; done) | (go_simp; done) | (simp; done)) (by first | omega | (simp <;> omega))
              have cc_wp2 := cell_keep (p := ⟨wo.heap.size, 2, none⟩) (v := .int .i64 h2) hb1 (by first | assumption | (go_keep; done) | (go_simp; done) | (simp; done)) (by first | omega | (simp <;> omega))
              have cc_wp3 := cell_keep (p := ⟨g, (j*3), none⟩) (v := .int .i64 y0) hb1 (by first | assumption | (go_keep; done) | (go_simp; done) | (simp; done)) (by first | omega | (simp <;> omega))
              have cc_wp4 := cell_keep (p := ⟨g, (j*3+1), none⟩) (v := .int .i64 y1) hb1 (by first | assumption | (go_keep; done) | (go_simp; done) | (simp; done)) (by first | omega | (simp <;> omega))
              have cc_wp5 := cell_keep (p := ⟨g, (j*3+2), none⟩) (v := .int .i64 y2) hb1 (by first | assumption | (go_keep; done) | (go_simp; done) | (simp; done)) (by first | omega | (simp <;> omega))
              have hS1_wp : Below w.heap.size w wp := S_below hb1 (by repeat (first | exact Below.refl _ _ | assumption | refine below_drewN ?_ _ | refine Below.drew ?_ | refine Below.alloc ?_ (by first | omega | (simp <;> omega)) _ | refine Below.setCell ?_ (by first | omega | (simp <;> omega)) _)) (by first | omega | (simp <;> omega))
              have hz1_wp : w.heap.size ≤ wp.heap.size := S_size hb1 (by first | omega | (simp <;> omega))
              have hqb_wp0 : wo.heap.size < wp.heap.size := S_lt hb1 (by first | omega | (simp <;> omega))
              have hqb_wp1 : g < wp.heap.size := S_lt hb1 (by first | omega | (simp <;> omega))
              clear hb1
              obtain ⟨t, ht⟩ : ∃ t, tgH (y0, y1, y2) (h0, h1, h2) = t := ⟨_, rfl⟩
              rw [ht] at HI
              obtain ⟨t0, t1, t2⟩ := t
              have HT := Lib.hid ht; clear ht
              go_wp2_with fail
              go_region_with (first
                  | (go_at_call 88; (with_reducible refine (iTighter_is HY.out HH.out HV2.out HT.out _).mono ?_); rintro e w_a ⟨rfl, hb_a⟩; go_loud (have HOa := Lib.hid ((HO3.out.drew).kept hb_a); have x0 := cell_keep hb_a cc_wp3 hqb_wp1; have x1 := cell_keep hb_a cc_wp4 hqb_wp1; have x2 := cell_keep hb_a cc_wp5 hqb_wp1; have zz0 := HOa.out.frz (j * 3); have zz1 := HOa.out.frz (j * 3 + 1); have zz2 := HOa.out.frz (j * 3 + 2); have hba : Below w.heap.size w w_a := hS1_wp.drew.trans (hb_a.mono hz1_wp); clear hb_a)))
              all_goals
                obtain ⟨P1, P2⟩ := HOa.out.put3 rfl hlj (t0, t1, t2) rfl hba (Below.size hba) hgB
                have P1 := Lib.hid P1
                have P2 := Lib.hid P2
                go_wp2_with fail
                go_roundw
                case rel => exact ⟨k + 1, L.set j (t0, t1, t2), some ⟨g, 0, none⟩, cv, by omega, by go_num, by rw [List.length_set], by rw [List.length_set]; omega, (by show _ = _; rw [HS.out, ← HL.out, HI.out]), (by rw [List.length_set]; exact P1), (by show ∀ x ∈ _, _; rw [← HI.out]; exact insH_ok HX.out HH.out), P2.out⟩
                case measure => simp [intOf]; omega
          · have HP2 := hstep hv
            have HV := Lib.hid hv
            clear hstep hmid hsame hv
            go_wp2_with fail
            try simp only [List.append_eq, List.cons_append, List.nil_append]
            refine wp_region_qb (by kernel_rfl) (by kernel_rfl) (fun W_q hW_q => ?_)
            have kq0 : ∀ d_ os_, (Sort.grow (redrawn W_q d_) os_).cell? ⟨wo.heap.size, 0, none⟩ = some (.int .i64 h0) := fun d_ os_ => cell_regrown (by rw [hW_q.out]; first | assumption | (go_keep; done) | (go_simp; done) | (simp; done)) d_ os_
            have kq1 : ∀ d_ os_, (Sort.grow (redrawn W_q d_) os_).cell? ⟨wo.heap.size, 1, none⟩ = some (.int .i64 h1) := fun d_ os_ => cell_regrown (by rw [hW_q.out]; first | assumption | (go_keep; done) | (go_simp; done) | (simp; done)) d_ os_
            have kq2 : ∀ d_ os_, (Sort.grow (redrawn W_q d_) os_).cell? ⟨wo.heap.size, 2, none⟩ = some (.int .i64 h2) := fun d_ os_ => cell_regrown (by rw [hW_q.out]; first | assumption | (go_keep; done) | (go_simp; done) | (simp; done)) d_ os_
            have kq3 : ∀ d_ os_, (Sort.grow (redrawn W_q d_) os_).cell? ⟨g, (j*3), none⟩ = some (.int .i64 y0) := fun d_ os_ => cell_regrown (by rw [hW_q.out]; first | assumption | (go_keep; done) | (go_simp; done) | (simp; done)) d_ os_
            have kq4 : ∀ d_ os_, (Sort.grow (redrawn W_q d_) os_).cell? ⟨g, (j*3+1), none⟩ = some (.int .i64 y1) := fun d_ os_ => cell_regrown (by rw [hW_q.out]; first | assumption | (go_keep; done) | (go_simp; done) | (simp; done)) d_ os_
            have kq5 : ∀ d_ os_, (Sort.grow (redrawn W_q d_) os_).cell? ⟨g, (j*3+2), none⟩ = some (.int .i64 y2) := fun d_ os_ => cell_regrown (by rw [hW_q.out]; first | assumption | (go_keep; done) | (go_simp; done) | (simp; done)) d_ os_
            repeat (go_big_quiet_step (first | (go_at_call 86; with_reducible exact Calls.regrown_of (iBefore_is HY.out HH.out HV.out _))))
            refine wpQuiet_nil ?_
            intro _ hw_q
            obtain ⟨⟨dq_, osq_⟩, hw_q⟩ := hw_q
            subst hw_q
            have hb1 := below_regrown W_q dq_ osq_
            clear kq0 kq1 kq2 kq3 kq4 kq5
            generalize Sort.grow (redrawn W_q dq_) osq_ = wq at *
            have hW_q := hW_q.out
            subst hW_q
            have HO3 := Lib.hid (HO2.out.kept hb1)
            have cc_wq0 := cell_keep (p := ⟨wo.heap.size, 0, none⟩) (v := .int .i64 h0) hb1 (by first | assumption | (go_keep; done) | (go_simp; done) | (simp; done)) (by first | omega | (simp <;> omega))
            have cc_wq1 := cell_keep (p := ⟨wo.heap.size, 1, none⟩) (v := .int .i64 h1) hb1 (by first | assumption | (go_keep; done) | (go_simp; done) | (simp; done)) (by first | omega | (simp <;> omega))
            have cc_wq2 := cell_keep (p := ⟨wo.heap.size, 2, none⟩) (v := .int .i64 h2) hb1 (by first | assumption | (go_keep; done) | (go_simp; done) | (simp; done)) (by first | omega | (simp <;> omega))
            have cc_wq3 := cell_keep (p := ⟨g, (j*3), none⟩) (v := .int .i64 y0) hb1 (by first | assumption | (go_keep; done) | (go_simp; done) | (simp; done)) (by first | omega | (simp <;> omega))
            have cc_wq4 := cell_keep (p := ⟨g, (j*3+1), none⟩) (v := .int .i64 y1) hb1 (by first | assumption | (go_keep; done) | (go_simp; done) | (simp; done)) (by first | omega | (simp <;> omega))
            have cc_wq5 := cell_keep (p := ⟨g, (j*3+2), none⟩) (v := .int .i64 y2) hb1 (by first | assumption | (go_keep; done) | (go_simp; done) | (simp; done)) (by first | omega | (simp <;> omega))
            have hS1_wq : Below w.heap.size w wq := S_below hb1 (by repeat (first | exact Below.refl _ _ | assumption | refine below_drewN ?_ _ | refine Below.drew ?_ | refine Below.alloc ?_ (by first | omega | (simp <;> omega)) _ | refine Below.setCell ?_ (by first | omega | (simp <;> omega)) _)) (by first | omega | (simp <;> omega))
            have hz1_wq : w.heap.size ≤ wq.heap.size := S_size hb1 (by first | omega | (simp <;> omega))
            have hqb_wq0 : wo.heap.size < wq.heap.size := S_lt hb1 (by first | omega | (simp <;> omega))
            have hqb_wq1 : g < wq.heap.size := S_lt hb1 (by first | omega | (simp <;> omega))
            clear hb1
            go_wp2_with fail
            go_roundw
            case rel => exact ⟨j + 1, by omega, by go_num, HP2, HO3, cc_wq0, cc_wq1, cc_wq2, hqb_wq0, hS1_wq⟩
            case measure => simp [intOf]; omega
        · have hjl : j = L.length := by omega
          have HI := Lib.hid (insH_end HP.out hjl)
          clear hjl
          have hlj' : ¬ (j : Int) < (L.length : Int) := by omega
          go_wp2_with fail
          try simp only [List.append_eq, List.cons_append, List.nil_append]
          refine wp_region_qb (by kernel_rfl) (by kernel_rfl) (fun W_q hW_q => ?_)
          have kq0 : ∀ d_ os_, (Sort.grow (redrawn W_q d_) os_).cell? ⟨wo.heap.size, 0, none⟩ = some (.int .i64 h0) := fun d_ os_ => cell_regrown (by rw [hW_q.out]; first | assumption | (go_keep; done) | (go_simp; done) | (simp; done)) d_ os_
          have kq1 : ∀ d_ os_, (Sort.grow (redrawn W_q d_) os_).cell? ⟨wo.heap.size, 1, none⟩ = some (.int .i64 h1) := fun d_ os_ => cell_regrown (by rw [hW_q.out]; first | assumption | (go_keep; done) | (go_simp; done) | (simp; done)) d_ os_
          have kq2 : ∀ d_ os_, (Sort.grow (redrawn W_q d_) os_).cell? ⟨wo.heap.size, 2, none⟩ = some (.int .i64 h2) := fun d_ os_ => cell_regrown (by rw [hW_q.out]; first | assumption | (go_keep; done) | (go_simp; done) | (simp; done)) d_ os_
          repeat (go_big_quiet_step (fail))
          refine wpQuiet_nil ?_
          intro _ hw_q
          obtain ⟨⟨dq_, osq_⟩, hw_q⟩ := hw_q
          subst hw_q
          have hb1 := below_regrown W_q dq_ osq_
          clear kq0 kq1 kq2
          generalize Sort.grow (redrawn W_q dq_) osq_ = wq at *
          have hW_q := hW_q.out
          subst hW_q
          have HO3 := Lib.hid (HO2.out.kept hb1)
          have cc_wq0 := cell_keep (p := ⟨wo.heap.size, 0, none⟩) (v := .int .i64 h0) hb1 (by first | assumption | (go_keep; done) | (go_simp; done) | (simp; done)) (by first | omega | (simp <;> omega))
          have cc_wq1 := cell_keep (p := ⟨wo.heap.size, 1, none⟩) (v := .int .i64 h1) hb1 (by first | assumption | (go_keep; done) | (go_simp; done) | (simp; done)) (by first | omega | (simp <;> omega))
          have cc_wq2 := cell_keep (p := ⟨wo.heap.size, 2, none⟩) (v := .int .i64 h2) hb1 (by first | assumption | (go_keep; done) | (go_simp; done) | (simp; done)) (by first | omega | (simp <;> omega))
          have hS1_wq : Below w.heap.size w wq := S_below hb1 (by repeat (first | exact Below.refl _ _ | assumption | refine below_drewN ?_ _ | refine Below.drew ?_ | refine Below.alloc ?_ (by first | omega | (simp <;> omega)) _ | refine Below.setCell ?_ (by first | omega | (simp <;> omega)) _)) (by first | omega | (simp <;> omega))
          have hz1_wq : w.heap.size ≤ wq.heap.size := S_size hb1 (by first | omega | (simp <;> omega))
          have hqb_wq0 : wo.heap.size < wq.heap.size := S_lt hb1 (by first | omega | (simp <;> omega))
          clear hb1
          go_wp2_with fail
          try simp only [List.append_eq, List.cons_append, List.nil_append]
          refine wp_region_qb (by kernel_rfl) (by kernel_rfl) (fun W_q hW_q => ?_)
          have kq0 : ∀ d_ os_, (Sort.grow (redrawn W_q d_) os_).cell? ⟨wo.heap.size, 0, none⟩ = some (.int .i64 h0) := fun d_ os_ => cell_regrown (by rw [hW_q.out]; first | assumption | (go_keep; done) | (go_simp; done) | (simp; done)) d_ os_
          have kq1 : ∀ d_ os_, (Sort.grow (redrawn W_q d_) os_).cell? ⟨wo.heap.size, 1, none⟩ = some (.int .i64 h1) := fun d_ os_ => cell_regrown (by rw [hW_q.out]; first | assumption | (go_keep; done) | (go_simp; done) | (simp; done)) d_ os_
          have kq2 : ∀ d_ os_, (Sort.grow (redrawn W_q d_) os_).cell? ⟨wo.heap.size, 2, none⟩ = some (.int .i64 h2) := fun d_ os_ => cell_regrown (by rw [hW_q.out]; first | assumption | (go_keep; done) | (go_simp; done) | (simp; done)) d_ os_
          repeat (go_big_quiet_step (fail))
          refine wpQuiet_nil ?_
          intro _ hw_q
          obtain ⟨⟨dq_, osq_⟩, hw_q⟩ := hw_q
          subst hw_q
          have hb1 := below_regrown W_q dq_ osq_
          clear kq0 kq1 kq2
          generalize Sort.grow (redrawn W_q dq_) osq_ = wp at *
          have hW_q := hW_q.out
          subst hW_q
          have HO3 := Lib.hid (HO3.out.kept hb1)
          have cc_wp0 := cell_keep (p := ⟨wo.heap.size, 0, none⟩) (v := .int .i64 h0) hb1 (by first | assumption | (go_keep; done) | (go_simp; done) | (simp; done)) (by first | omega | (simp <;> omega))
          have cc_wp1 := cell_keep (p := ⟨wo.heap.size, 1, none⟩) (v := .int .i64 h1) hb1 (by first | assumption | (go_keep; done) | (go_simp; done) | (simp; done)) (by first | omega | (simp <;> omega))
          have cc_wp2 := cell_keep (p := ⟨wo.heap.size, 2, none⟩) (v := .int .i64 h2) hb1 (by first | assumption | (go_keep; done) | (go_simp; done) | (simp; done)) (by first | omega | (simp <;> omega))
          have hS1_wp : Below w.heap.size w wp := S_below hb1 (by repeat (first | exact Below.refl _ _ | assumption | refine below_drewN ?_ _ | refine Below.drew ?_ | refine Below.alloc ?_ (by first | omega | (simp <;> omega)) _ | refine Below.setCell ?_ (by first | omega | (simp <;> omega)) _)) (by first | omega | (simp <;> omega))
          have hz1_wp : w.heap.size ≤ wp.heap.size := S_size hb1 (by first | omega | (simp <;> omega))
          have hqb_wp0 : wo.heap.size < wp.heap.size := S_lt hb1 (by first | omega | (simp <;> omega))
          clear hb1
          obtain ⟨M, hM⟩ : ∃ M, L.take j ++ (h0, h1, h2) :: L.drop j = M := ⟨_, rfl⟩
          have HM2 := Lib.hid (HI.out.trans hM)
          have hMl : M.length = L.length + 1 := by rw [← hM]; exact shift_len _ hj
          have HM1 := Lib.hid hM
          have HML := Lib.hid hMl
          clear hM hMl
          go_wp2_with (go_at_call 89; refine (insertH_to (h := (h0, h1, h2)) HM1.out (HO3.out.kept ((Below.refl _ _).alloc (Nat.le_refl _) _)) (Nat.le_trans hz1_wp (Nat.le_of_lt (new_lt _ _))) hj (far_of HO3.out (Nat.le_refl _)) (heap_alloc_new wp _) (by omega)).mono ?_; rintro e w2 ⟨A2, c2, rfl, hO4, hb4⟩; have HO4 := Lib.hid hO4; have hB2 : Below w.heap.size w w2 := (hS1_wp.alloc hz1_wp _).trans (hb4.mono (Nat.le_refl _)); clear hO4 hb4)
          go_roundw
          case rel => exact ⟨k + 1, M, A2, c2, by omega, by go_num, rfl, by have := HML.out; omega, (by show _ = _; rw [HS.out, ← HL.out, HM2.out]), HO4, (by show ∀ x ∈ _, _; rw [← HM2.out]; exact insH_ok HX.out HH.out), hB2⟩
          case measure => simp [intOf]; omega
    · have hk' : k = n := by omega
      subst hk'
      go_wp2_with fail
      go_ret
      refine ⟨_, rfl, ?_, hb⟩
      have e : sortH hs = L := by rw [HL.out, List.take_of_length_le (by have := HN.out; omega)]
      rw [e]; exact HO.out

end Go.Proofs.Ythdaoadleeelnaa
