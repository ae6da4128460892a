/- l05IsEdge of the reference: do two different points of a border lie inside? -/
import Derived.Test.YthdaoadleeelnaaPts
import Derived.Test.YthdaoadleeelnaaRn4
import Derived.Test.YthdaoadleeelnaaNew
namespace Go.Proofs.Ythdaoadleeelnaa
open Go.ChangeShapes Go.WideShapes Go.ChangeAt Go.RowKit
attribute [local go_sem ↓] Go.wp_at_zero Go.wp_at_succ
set_option linter.unusedVariables false

theorem l05Cross_is {a b c a' b' c' X Y D : Int} (hg : okH (a, b, c) = true) (hh : okH (a', b', c') = true) (hX : pX (a, b, c) (a', b', c') = X) (hY : pY (a, b, c) (a', b', c') = Y) (hD : pD (a, b, c) (a', b', c') = D) (w : World) :
    Calls Try.prog 82 #[.agg #[.int .i64 a, .int .i64 b, .int .i64 c], .agg #[.int .i64 a', .int .i64 b', .int .i64 c']] w fun e w' => e = .returned (.agg #[.int .i64 X, .int .i64 Y, .int .i64 D]) ∧ Below w.heap.size w w' := by
  subst hX; subst hY; subst hD; exact l05Cross_any (a, b, c) (a', b', c') hg hh w

theorem l05Inside_is {A : Option Addr} {n c : Nat} {hs : List Hp} {x y d : Int} {v : Bool} (hv : insV hs x y d = v) (w : World) (hn : n = hs.length) (hA : HsAt w w.heap.size A hs) (hm : n ≤ 1048576) (hok : ∀ h ∈ hs, okH h = true)
    (hb : (-20000000000000 ≤ x ∧ x ≤ 20000000000000) ∧ (-20000000000000 ≤ y ∧ y ≤ 20000000000000) ∧ (0 ≤ d ∧ d ≤ 5000000000)) :
    Calls Try.prog 83 #[.slice A n c, .agg #[.int .i64 x, .int .i64 y, .int .i64 d]] w fun e w' => e = .returned (.bool v) ∧ Below w.heap.size w w' := by
  subst hv; obtain ⟨⟨h1, h2⟩, ⟨h3, h4⟩, h5, h6⟩ := hb; exact l05Inside_any A n c hs x y d w hn hA hm hok h5 h6 h1 h2 h3 h4

theorem l05Differ_is {x y d x' y' d' : Int} {v : Bool} (h : spOk x y d = true) (h' : spOk x' y' d' = true) (hv : (!decide (x * d' = x' * d ∧ y * d' = y' * d)) = v)
    (hb : (-20000000000000 ≤ x ∧ x ≤ 20000000000000) ∧ (-20000000000000 ≤ y ∧ y ≤ 20000000000000) ∧ (0 ≤ d ∧ d ≤ 5000000000)) (hb' : (-20000000000000 ≤ x' ∧ x' ≤ 20000000000000) ∧ (-20000000000000 ≤ y' ∧ y' ≤ 20000000000000) ∧ (0 ≤ d' ∧ d' ≤ 5000000000)) (w : World) :
    Calls Try.prog 84 #[.agg #[.int .i64 x, .int .i64 y, .int .i64 d], .agg #[.int .i64 x', .int .i64 y', .int .i64 d']] w fun e w' => e = .returned (.bool v) ∧ Below w.heap.size w w' := by
  obtain ⟨⟨h1, h2⟩, ⟨h3, h4⟩, h5, h6⟩ := hb
  obtain ⟨⟨g1, g2⟩, ⟨g3, g4⟩, g5, g6⟩ := hb'
  have e : (!same3 (spX x y d) (spY x y d) (spD x y d) (spX x' y' d') (spY x' y' d') (spD x' y' d')) = v := by
    rw [← hv]; congr 1
    rw [Bool.eq_iff_iff, spot_same h h']; simp
  rw [← e]
  exact l05Differ_any h rfl rfl rfl h' rfl rfl rfl w h1 h2 h3 h4 h5 h6 g1 g2 g3 g4 g5 g6

/-- The point that l05IsEdge keeps. -/
def FirstIs (h : Hp) (f : Option Hp) (x y d : Int) : Prop :=
  match f with
  | none => x = 0 ∧ y = 0 ∧ d = 0
  | some p => x = pX h p ∧ y = pY h p ∧ d = pD h p

set_option maxHeartbeats 1000000 in
set_option maxRecDepth 100000 in
theorem l05IsEdge_any (A : Option Addr) (n c k : Nat) (hs : List Hp) (w : World) (hn : n = hs.length) (hA : HsAt w w.heap.size A hs) (hm : n ≤ 1048576) (hok : ∀ h ∈ hs, okH h = true) (h : Hp) (hk : hs[k]? = some h) :
    Calls Try.prog 66 #[.slice A n c, .int .i64 k] w fun e w' => ∃ v, e = .returned (.bool v) ∧ (v = true ↔ EdgeI hs h) ∧ Below w.heap.size w w' := by
  have hkl : k < hs.length := by
    rcases Nat.lt_or_ge k hs.length with h' | h'
    · exact h'
    · rw [List.getElem?_eq_none h'] at hk; cases hk
  have HKE := Lib.hid hk
  rw [List.getElem?_eq_getElem hkl] at hk
  injection hk with hk
  have hkn : k < n := by omega
  have hh := hok h (by rw [← hk]; exact List.getElem_mem hkl)
  obtain ⟨b, off, rfl, hlb, k0, k1, k2⟩ := hA.at_ hkl
  rw [hk] at k0 k1 k2
  clear hk
  have HA := Lib.hid hA; clear hA
  have HN := Lib.hid hn; clear hn
  have HK := Lib.hid hok; clear hok
  clear hkl
  obtain ⟨x0, x1, x2⟩ := h
  simp only at k0 k1 k2
  have HH := Lib.hid hh; clear hh
  go_enter Try.func66, Try.ntmps66
  go_wp2_with fail
  go_loopw [12] (fun i wr => ∃ (j : Nat) (f : Option Hp) (fx fy fd : Int), j ≤ n ∧ i = .int .i64 j ∧ RowKit.Hid (Seen hs (x0, x1, x2) j f) ∧ RowKit.Hid (FirstIs (x0, x1, x2) f fx fy fd) ∧ wr.cell? ⟨w.heap.size, 0, none⟩ = some (.int .i64 fx) ∧ wr.cell? ⟨w.heap.size, 1, none⟩ = some (.int .i64 fy) ∧ wr.cell? ⟨w.heap.size, 2, none⟩ = some (.int .i64 fd) ∧ wr.frozen? ⟨w.heap.size, 0, none⟩ = false ∧ wr.frozen? ⟨w.heap.size, 1, none⟩ = false ∧ wr.frozen? ⟨w.heap.size, 2, none⟩ = false ∧ w.heap.size + 1 ≤ wr.heap.size ∧ Below w.heap.size w wr) (fun i _ => n - (intOf i).toNat)
  case atStart => exact ⟨0, none, 0, 0, 0, Nat.zero_le _, rfl, seen_zero _ _, ⟨rfl, rfl, rfl⟩, by first | (go_simp; done) | (simp; done), by first | (go_simp; done) | (simp; done), by first | (go_simp; done) | (simp; done), by first | (go_simp; done) | (simp; done), by first | (go_simp; done) | (simp; done), by first | (go_simp; done) | (simp; done), by simp, (by repeat (first | exact Below.refl _ _ | assumption | refine below_drewN ?_ _ | refine Below.drew ?_ | refine Below.alloc ?_ (by first | omega | (simp <;> omega)) _ | refine Below.setCell ?_ (by first | omega | (simp <;> omega)) _))⟩
  case round =>
    obtain ⟨j, f, fx, fy, fd, hj, rfl, HSn, HF, q0, q1, q2, z0, z1, z2, hz, hb⟩ := hrel
    by_cases hlt : j < n
    · have hl1 : j < hs.length := by have := HN.out; omega
      obtain ⟨b_, off_, e_, _, c0, c1, c2⟩ := (HA.out.below hb).at_ hl1
      injection e_ with e_; injection e_ with e1_ e2_; subst e1_ e2_
      have hlb' : b < wr.heap.size := by omega
      have hhj := HK.out _ (List.getElem_mem hl1)
      have hout := seen_out HSn.out hl1
      by_cases hjk : j = k
      · have HS2 := Lib.hid (hout (by have q := HKE.out; rw [← hjk, List.getElem?_eq_getElem hl1] at q; injection q with q; rw [q]; exact pt_self _ _))
        clear hout
        generalize hs[j] = g at *
        obtain ⟨g0, g1, g2⟩ := g
        simp only at c0 c1 c2
        subst hjk
        go_wp2_with fail
        go_roundw
        case rel => exact ⟨j + 1, f, fx, fy, fd, by omega, by go_num, HS2, HF, (by first | (go_keep; done) | (go_simp; done) | (simp; done) | assumption | (rw [World.frozen?_alloc_past _ _ _ (by first | omega | (simp <;> omega))]; assumption) | (rw [World.cell?_alloc_past _ _ _ (by first | omega | (simp <;> omega))]; assumption)), (by first | (go_keep; done) | (go_simp; done) | (simp; done) | assumption | (rw [World.frozen?_alloc_past _ _ _ (by first | omega | (simp <;> omega))]; assumption) | (rw [World.cell?_alloc_past _ _ _ (by first | omega | (simp <;> omega))]; assumption)), (by first | (go_keep; done) | (go_simp; done) | (simp; done) | assumption | (rw [World.frozen?_alloc_past _ _ _ (by first | omega | (simp <;> omega))]; assumption) | (rw [World.cell?_alloc_past _ _ _ (by first | omega | (simp <;> omega))]; assumption)), (by first | (go_keep; done) | (go_simp; done) | (simp; done) | assumption | (rw [World.frozen?_alloc_past _ _ _ (by first | omega | (simp <;> omega))]; assumption) | (rw [World.cell?_alloc_past _ _ _ (by first | omega | (simp <;> omega))]; assumption)), (by first | (go_keep; done) | (go_simp; done) | (simp; done) | assumption | (rw [World.frozen?_alloc_past _ _ _ (by first | omega | (simp <;> omega))]; assumption) | (rw [World.cell?_alloc_past _ _ _ (by first | omega | (simp <;> omega))]; assumption)), (by first | (go_keep; done) | (go_simp; done) | (simp; done) | assumption | (rw [World.frozen?_alloc_past _ _ _ (by first | omega | (simp <;> omega))]; assumption) | (rw [World.cell?_alloc_past _ _ _ (by first | omega | (simp <;> omega))]; assumption)), by simp; omega, (by repeat (first | exact Below.refl _ _ | assumption | refine below_drewN ?_ _ | refine Below.drew ?_ | refine Below.alloc ?_ (by first | omega | (simp <;> omega)) _ | refine Below.setCell ?_ (by first | omega | (simp <;> omega)) _))⟩
        case measure => simp [intOf]; omega
      · skip
        have hpb := pt_bounds HH.out hhj
        cases hv : ptIn hs (x0, x1, x2) hs[j]
        · have HS2 := Lib.hid (hout hv)
          clear hout
          obtain ⟨X, hX⟩ : ∃ X, pX (x0, x1, x2) hs[j] = X := ⟨_, rfl⟩
          obtain ⟨Y, hY⟩ : ∃ Y, pY (x0, x1, x2) hs[j] = Y := ⟨_, rfl⟩
          obtain ⟨D, hD⟩ : ∃ D, pD (x0, x1, x2) hs[j] = D := ⟨_, rfl⟩
          rw [hX, hY, hD] at hpb
          have HPB := Lib.hid hpb
          have HV := Lib.hid (show insV hs X Y D = false by rw [← hX, ← hY, ← hD]; exact hv)
          skip
          clear hpb hv
          have hjk' : ¬ (j : Int) = (k : Int) := by omega
          have l0 := cell_keep hb k0 hlb
          have l1 := cell_keep hb k1 hlb
          have l2 := cell_keep hb k2 hlb
          generalize hs[j] = g at *
          obtain ⟨g0, g1, g2⟩ := g
          simp only at c0 c1 c2
          have HG := Lib.hid hhj; have HX := Lib.hid hX; have HY := Lib.hid hY; have HD := Lib.hid hD
          clear hhj hX hY hD hjk
          go_wp2_with fail
          have hzl : w.heap.size < wr.heap.size := by omega
          have zz0 : (wr.alloc (.cells #[.int .i64 g0, .int .i64 g1, .int .i64 g2] 57)).drew.frozen? ⟨w.heap.size, 0, none⟩ = false := (World.frozen?_alloc_past _ _ _ (by omega)).trans z0
          have zz1 : (wr.alloc (.cells #[.int .i64 g0, .int .i64 g1, .int .i64 g2] 57)).drew.frozen? ⟨w.heap.size, 1, none⟩ = false := (World.frozen?_alloc_past _ _ _ (by omega)).trans z1
          have zz2 : (wr.alloc (.cells #[.int .i64 g0, .int .i64 g1, .int .i64 g2] 57)).drew.frozen? ⟨w.heap.size, 2, none⟩ = false := (World.frozen?_alloc_past _ _ _ (by omega)).trans z2
          have hS0 : Below w.heap.size w (wr.alloc (.cells #[.int .i64 g0, .int .i64 g1, .int .i64 g2] 57)).drew := (hb.alloc (by omega) _).drew
          go_upto_region 6 with fail
          go_cut [8] (fun s8 wx => ∃ bp : Nat, s8 = .pointer (some ⟨bp, 0, none⟩) ∧ Below w.heap.size w wx ∧ w.heap.size + 1 ≤ wx.heap.size ∧ w.heap.size + 1 ≤ bp ∧ bp < wx.heap.size ∧ wx.cell? ⟨bp, 0, none⟩ = some (.int .i64 X) ∧ wx.cell? ⟨bp, 1, none⟩ = some (.int .i64 Y) ∧ wx.cell? ⟨bp, 2, none⟩ = some (.int .i64 D) ∧ wx.cell? ⟨w.heap.size, 0, none⟩ = some (.int .i64 fx) ∧ wx.cell? ⟨w.heap.size, 1, none⟩ = some (.int .i64 fy) ∧ wx.cell? ⟨w.heap.size, 2, none⟩ = some (.int .i64 fd) ∧ wx.cell? ⟨wr.heap.size, 0, none⟩ = some (.int .i64 g0) ∧ wx.cell? ⟨wr.heap.size, 1, none⟩ = some (.int .i64 g1) ∧ wx.cell? ⟨wr.heap.size, 2, none⟩ = some (.int .i64 g2) ∧ wx.cell? ⟨b, (off+k*3), none⟩ = some (.int .i64 x0) ∧ wx.cell? ⟨b, (off+k*3+1), none⟩ = some (.int .i64 x1) ∧ wx.cell? ⟨b, (off+k*3+2), none⟩ = some (.int .i64 x2) ∧ wx.frozen? ⟨w.heap.size, 0, none⟩ = false ∧ wx.frozen? ⟨w.heap.size, 1, none⟩ = false ∧ wx.frozen? ⟨w.heap.size, 2, none⟩ = false ∧ wr.heap.size < wx.heap.size ∧ b < wx.heap.size)
          case first =>
            go_region_held3 (fun w' => (Below w.heap.size w w' ∧ w.heap.size + 1 ≤ w'.heap.size) ∧ w'.cell? ⟨w.heap.size, 0, none⟩ = some (.int .i64 fx) ∧ w'.cell? ⟨w.heap.size, 1, none⟩ = some (.int .i64 fy) ∧ w'.cell? ⟨w.heap.size, 2, none⟩ = some (.int .i64 fd) ∧ w'.cell? ⟨wr.heap.size, 0, none⟩ = some (.int .i64 g0) ∧ w'.cell? ⟨wr.heap.size, 1, none⟩ = some (.int .i64 g1) ∧ w'.cell? ⟨wr.heap.size, 2, none⟩ = some (.int .i64 g2) ∧ w'.cell? ⟨b, (off+k*3), none⟩ = some (.int .i64 x0) ∧ w'.cell? ⟨b, (off+k*3+1), none⟩ = some (.int .i64 x1) ∧ w'.cell? ⟨b, (off+k*3+2), none⟩ = some (.int .i64 x2) ∧ w'.frozen? ⟨w.heap.size, 0, none⟩ = false ∧ w'.frozen? ⟨w.heap.size, 1, none⟩ = false ∧ w'.frozen? ⟨w.heap.size, 2, none⟩ = false ∧ wr.heap.size < w'.heap.size ∧ b < w'.heap.size) (first | (go_split_ands; refine ⟨⟨?_, ?_⟩, ?_, ?_, ?_, ?_, ?_, ?_, ?_, ?_, ?_, ?_, ?_, ?_, ?_, ?_⟩ <;> first | (with_reducible assumption) | (with_reducible show Below _ _ _; (repeat (first | (with_reducible exact Below.refl _ _) | (with_reducible assumption) | (with_reducible refine below_drewN ?_ _) | (with_reducible refine Below.drew ?_) | ((with_reducible refine Below.alloc ?_ ?_ _); rotate_left; (focus first | omega | (simp <;> omega))) | ((with_reducible refine Below.setCell ?_ ?_ _); rotate_left; (focus first | omega | (simp <;> omega))))); done) | omega | (go_keep; done) | (go_simp; done) | (simp <;> omega) | (fail_if_success skip)))
              (first | (go_at_call 82; with_reducible refine (l05Cross_is HH.out HG.out HX.out HY.out HD.out _).mono ?_; rintro e w1 ⟨rfl, hb1⟩; go_split_ands; have cc0 := cell_keep (p := ⟨w.heap.size, 0, none⟩) (v := .int .i64 fx) hb1 (by first | (with_reducible assumption) | (go_keep; done) | (go_simp; done) | (simp; done)) (by first | omega | (simp <;> omega)); have cc1 := cell_keep (p := ⟨w.heap.size, 1, none⟩) (v := .int .i64 fy) hb1 (by first | (with_reducible assumption) | (go_keep; done) | (go_simp; done) | (simp; done)) (by first | omega | (simp <;> omega)); have cc2 := cell_keep (p := ⟨w.heap.size, 2, none⟩) (v := .int .i64 fd) hb1 (by first | (with_reducible assumption) | (go_keep; done) | (go_simp; done) | (simp; done)) (by first | omega | (simp <;> omega)); have cc3 := cell_keep (p := ⟨wr.heap.size, 0, none⟩) (v := .int .i64 g0) hb1 (by first | (with_reducible assumption) | (go_keep; done) | (go_simp; done) | (simp; done)) (by first | omega | (simp <;> omega)); have cc4 := cell_keep (p := ⟨wr.heap.size, 1, none⟩) (v := .int .i64 g1) hb1 (by first | (with_reducible assumption) | (go_keep; done) | (go_simp; done) | (simp; done)) (by first | omega | (simp <;> omega)); have cc5 := cell_keep (p := ⟨wr.heap.size, 2, none⟩) (v := .int .i64 g2) hb1 (by first | (with_reducible assumption) | (go_keep; done) | (go_simp; done) | (simp; done)) (by first | omega | (simp <;> omega)); have cc6 := cell_keep (p := ⟨b, (off+k*3), none⟩) (v := .int .i64 x0) hb1 (by first | (with_reducible assumption) | (go_keep; done) | (go_simp; done) | (simp; done)) (by first | omega | (simp <;> omega)); have cc7 := cell_keep (p := ⟨b, (off+k*3+1), none⟩) (v := .int .i64 x1) hb1 (by first | (with_reducible assumption) | (go_keep; done) | (go_simp; done) | (simp; done)) (by first | omega | (simp <;> omega)); have cc8 := cell_keep (p := ⟨b, (off+k*3+2), none⟩) (v := .int .i64 x2) hb1 (by first | (with_reducible assumption) | (go_keep; done) | (go_simp; done) | (simp; done)) (by first | omega | (simp <;> omega)); have cf0 := frozen_keep (p := ⟨w.heap.size, 0, none⟩) hb1 (by first | (with_reducible assumption) | (go_keep; done) | (go_simp; done) | (simp; done)) (by first | omega | (simp <;> omega)); have cf1 := frozen_keep (p := ⟨w.heap.size, 1, none⟩) hb1 (by first | (with_reducible assumption) | (go_keep; done) | (go_simp; done) | (simp; done)) (by first | omega | (simp <;> omega)); have cf2 := frozen_keep (p := ⟨w.heap.size, 2, none⟩) hb1 (by first | (with_reducible assumption) | (go_keep; done) | (go_simp; done) | (simp; done)) (by first | omega | (simp <;> omega)); have hS1 : Below w.heap.size w w1 := S_below hb1 (by repeat (first | exact Below.refl _ _ | assumption | refine below_drewN ?_ _ | refine Below.drew ?_ | refine Below.alloc ?_ (by first | omega | (simp <;> omega)) _ | refine Below.setCell ?_ (by first | omega | (simp <;> omega)) _)) (by first | omega | (simp <;> omega)); have hz1 : w.heap.size + 1 ≤ w1.heap.size := S_size hb1 (by first | omega | (simp <;> omega)); have hqb0 : w.heap.size < w1.heap.size := S_lt hb1 (by first | omega | (simp <;> omega)); have hqb1 : wr.heap.size < w1.heap.size := S_lt hb1 (by first | omega | (simp <;> omega)); have hqb2 : b < w1.heap.size := S_lt hb1 (by first | omega | (simp <;> omega)); (first | (have hnz := S_lt hb1 hnz; have nb0 := cell_keep hb1 nb0 (by omega); have nb1 := cell_keep hb1 nb1 (by omega); have nb2 := cell_keep hb1 nb2 (by omega); have nf0 := frozen_keep hb1 nf0 (by omega); have nf1 := frozen_keep hb1 nf1 (by omega); have nf2 := frozen_keep hb1 nf2 (by omega)) | (have _tok : Below (World.drew (World.alloc _ (Obj.cells #[.int .i64 0,  .int .i64 0,  .int .i64 0] _ _))).heap.size _ w1 := hb1; go_must (have nb0 := cell_keep (p := ⟨wr.heap.size + 1, 0, none⟩) (v := .int .i64 0) hb1 (cell_new_drew _ _ _ _ (by simp) rfl) (by first | omega | (simp <;> omega))); go_must (have nb1 := cell_keep (p := ⟨wr.heap.size + 1, 1, none⟩) (v :=  .int .i64 0) hb1 (cell_new_drew _ _ _ _ (by simp) rfl) (by first | omega | (simp <;> omega))); go_must (have nb2 := cell_keep (p := ⟨wr.heap.size + 1, 2, none⟩) (v :=  .int .i64 0) hb1 (cell_new_drew _ _ _ _ (by simp) rfl) (by first | omega | (simp <;> omega))); go_must (have nf0 := frozen_keep (p := ⟨wr.heap.size + 1, 0, none⟩) hb1 (frozen_new_drew _ _ _ _ (by simp)) (by first | omega | (simp <;> omega))); go_must (have nf1 := frozen_keep (p := ⟨wr.heap.size + 1, 1, none⟩) hb1 (frozen_new_drew _ _ _ _ (by simp)) (by first | omega | (simp <;> omega))); go_must (have nf2 := frozen_keep (p := ⟨wr.heap.size + 1, 2, none⟩) hb1 (frozen_new_drew _ _ _ _ (by simp)) (by first | omega | (simp <;> omega))); go_must (have hnz : wr.heap.size + 1 < w1.heap.size := S_lt hb1 (by first | omega | (simp <;> omega))); go_must (have hnl : w.heap.size + 1 ≤ wr.heap.size + 1 := by omega); go_must (have hne0 : ¬ wr.heap.size + 1 = w.heap.size := by omega); go_must (have hnf0 : ¬ w.heap.size = wr.heap.size + 1 := by omega); go_must (have hne1 : ¬ wr.heap.size + 1 = wr.heap.size := by omega); go_must (have hnf1 : ¬ wr.heap.size = wr.heap.size + 1 := by omega); go_must (have hne2 : ¬ wr.heap.size + 1 = b := by omega); go_must (have hnf2 : ¬ b = wr.heap.size + 1 := by omega)) | (have nb0 := cell_keep hb1 (cell_new_at _ _ _ 0 (v := .int .i64 0) rfl) (new_lt _ _); have nb1 := cell_keep hb1 (cell_new_at _ _ _ 1 (v :=  .int .i64 0) rfl) (new_lt _ _); have nb2 := cell_keep hb1 (cell_new_at _ _ _ 2 (v :=  .int .i64 0) rfl) (new_lt _ _); have nf0 := frozen_keep hb1 (frozen_new_at _ _ _ 0) (new_lt _ _); have nf1 := frozen_keep hb1 (frozen_new_at _ _ _ 1) (new_lt _ _); have nf2 := frozen_keep hb1 (frozen_new_at _ _ _ 2) (new_lt _ _); have hnz := S_lt hb1 (new_lt _ _)) | skip)))
            all_goals
              go_split_ands
              go_wp2_with fail
              go_meet
              refine ⟨_, rfl, ?_, ?_, ?_, ?_, ?_, ?_, ?_, ?_, ?_, ?_, ?_, ?_, ?_, ?_, ?_, ?_, ?_, ?_, ?_, ?_, ?_⟩ <;> first | (with_reducible assumption) | omega | (simp only [World.size_setCell, World.size_alloc]; omega) | (go_keep; done) | (go_simp; done) | exact set_0 nb0 _ | exact set2_1 nb1 _ _ | exact set3_2 nb2 _ _ _ | (simp <;> omega)
          case rest =>
            obtain ⟨bp, rfl, hcut⟩ := hcut
            go_split_ands
            go_wp2_with fail
            go_at_call 83; with_reducible refine (l05Inside_is HV.out _ HN.out (HA.out.step (by assumption)) hm HK.out HPB.out).mono ?_
            rintro e wd ⟨rfl, hb1⟩
            have cc_wd0 := cell_keep (p := ⟨w.heap.size, 0, none⟩) (v := .int .i64 fx) hb1 (by first | assumption | (go_keep; done) | (go_simp; done) | (simp; done)) (by first | omega | (simp <;> omega))
            have cc_wd1 := cell_keep (p := ⟨w.heap.size, 1, none⟩) (v := .int .i64 fy) hb1 (by first | assumption | (go_keep; done) | (go_simp; done) | (simp; done)) (by first | omega | (simp <;> omega))
            have cc_wd2 := cell_keep (p := ⟨w.heap.size, 2, none⟩) (v := .int .i64 fd) hb1 (by first | assumption | (go_keep; done) | (go_simp; done) | (simp; done)) (by first | omega | (simp <;> omega))
            have cc_wd3 := cell_keep (p := ⟨bp, 0, none⟩) (v := .int .i64 X) hb1 (by first | assumption | (go_keep; done) | (go_simp; done) | (simp; done)) (by first | omega | (simp <;> omega))
            have cc_wd4 := cell_keep (p := ⟨bp, 1, none⟩) (v := .int .i64 Y) hb1 (by first | assumption | (go_keep; done) | (go_simp; done) | (simp; done)) (by first | omega | (simp <;> omega))
            have cc_wd5 := cell_keep (p := ⟨bp, 2, none⟩) (v := .int .i64 D) hb1 (by first | assumption | (go_keep; done) | (go_simp; done) | (simp; done)) (by first | omega | (simp <;> omega))
            have cf_wd0 := frozen_keep (p := ⟨w.heap.size, 0, none⟩) hb1 (by first | assumption | (go_keep; done) | (go_simp; done) | (simp; done)) (by first | omega | (simp <;> omega))
            have cf_wd1 := frozen_keep (p := ⟨w.heap.size, 1, none⟩) hb1 (by first | assumption | (go_keep; done) | (go_simp; done) | (simp; done)) (by first | omega | (simp <;> omega))
            have cf_wd2 := frozen_keep (p := ⟨w.heap.size, 2, none⟩) hb1 (by first | assumption | (go_keep; done) | (go_simp; done) | (simp; done)) (by first | omega | (simp <;> omega))
            have hS1_wd : Below w.heap.size w wd := S_below hb1 (by repeat (first | exact Below.refl _ _ | assumption | refine below_drewN ?_ _ | refine Below.drew ?_ | refine Below.alloc ?_ (by first | omega | (simp <;> omega)) _ | refine Below.setCell ?_ (by first | omega | (simp <;> omega)) _)) (by first | omega | (simp <;> omega))
            have hz1_wd : w.heap.size + 1 ≤ wd.heap.size := S_size hb1 (by first | omega | (simp <;> omega))
            have hqb_wd0 : w.heap.size < wd.heap.size := S_lt hb1 (by first | omega | (simp <;> omega))
            have hqb_wd1 : bp < wd.heap.size := S_lt hb1 (by first | omega | (simp <;> omega))
            clear hb1
            go_wp2_with fail
            go_roundw
            case rel => exact ⟨j + 1, f, fx, fy, fd, by omega, by go_num, HS2, HF, cc_wd0, cc_wd1, cc_wd2, cf_wd0, cf_wd1, cf_wd2, hz1_wd, hS1_wd⟩
            case measure => simp [intOf]; omega
        · clear hout
          cases f with
          | none =>
            have HS2 := Lib.hid (seen_first HSn.out hl1 hv)
            obtain ⟨hf1, hf2, hf3⟩ := HF.out
            subst hf1 hf2 hf3
            obtain ⟨X, hX⟩ : ∃ X, pX (x0, x1, x2) hs[j] = X := ⟨_, rfl⟩
            obtain ⟨Y, hY⟩ : ∃ Y, pY (x0, x1, x2) hs[j] = Y := ⟨_, rfl⟩
            obtain ⟨D, hD⟩ : ∃ D, pD (x0, x1, x2) hs[j] = D := ⟨_, rfl⟩
            rw [hX, hY, hD] at hpb
            have HPB := Lib.hid hpb
            have HV := Lib.hid (show insV hs X Y D = true by rw [← hX, ← hY, ← hD]; exact hv)
            skip
            clear hpb hv
            have hjk' : ¬ (j : Int) = (k : Int) := by omega
            have l0 := cell_keep hb k0 hlb
            have l1 := cell_keep hb k1 hlb
            have l2 := cell_keep hb k2 hlb
            generalize hs[j] = g at *
            obtain ⟨g0, g1, g2⟩ := g
            simp only at c0 c1 c2
            have HG := Lib.hid hhj; have HX := Lib.hid hX; have HY := Lib.hid hY; have HD := Lib.hid hD
            clear hhj hX hY hD hjk
            go_wp2_with fail
            have hzl : w.heap.size < wr.heap.size := by omega
            have zz0 : (wr.alloc (.cells #[.int .i64 g0, .int .i64 g1, .int .i64 g2] 57)).drew.frozen? ⟨w.heap.size, 0, none⟩ = false := (World.frozen?_alloc_past _ _ _ (by omega)).trans z0
            have zz1 : (wr.alloc (.cells #[.int .i64 g0, .int .i64 g1, .int .i64 g2] 57)).drew.frozen? ⟨w.heap.size, 1, none⟩ = false := (World.frozen?_alloc_past _ _ _ (by omega)).trans z1
            have zz2 : (wr.alloc (.cells #[.int .i64 g0, .int .i64 g1, .int .i64 g2] 57)).drew.frozen? ⟨w.heap.size, 2, none⟩ = false := (World.frozen?_alloc_past _ _ _ (by omega)).trans z2
            have hS0 : Below w.heap.size w (wr.alloc (.cells #[.int .i64 g0, .int .i64 g1, .int .i64 g2] 57)).drew := (hb.alloc (by omega) _).drew
            go_upto_region 6 with fail
            go_cut [8] (fun s8 wx => ∃ bp : Nat, s8 = .pointer (some ⟨bp, 0, none⟩) ∧ Below w.heap.size w wx ∧ w.heap.size + 1 ≤ wx.heap.size ∧ w.heap.size + 1 ≤ bp ∧ bp < wx.heap.size ∧ wx.cell? ⟨bp, 0, none⟩ = some (.int .i64 X) ∧ wx.cell? ⟨bp, 1, none⟩ = some (.int .i64 Y) ∧ wx.cell? ⟨bp, 2, none⟩ = some (.int .i64 D) ∧ wx.cell? ⟨w.heap.size, 0, none⟩ = some (.int .i64 0) ∧ wx.cell? ⟨w.heap.size, 1, none⟩ = some (.int .i64 0) ∧ wx.cell? ⟨w.heap.size, 2, none⟩ = some (.int .i64 0) ∧ wx.cell? ⟨wr.heap.size, 0, none⟩ = some (.int .i64 g0) ∧ wx.cell? ⟨wr.heap.size, 1, none⟩ = some (.int .i64 g1) ∧ wx.cell? ⟨wr.heap.size, 2, none⟩ = some (.int .i64 g2) ∧ wx.cell? ⟨b, (off+k*3), none⟩ = some (.int .i64 x0) ∧ wx.cell? ⟨b, (off+k*3+1), none⟩ = some (.int .i64 x1) ∧ wx.cell? ⟨b, (off+k*3+2), none⟩ = some (.int .i64 x2) ∧ wx.frozen? ⟨w.heap.size, 0, none⟩ = false ∧ wx.frozen? ⟨w.heap.size, 1, none⟩ = false ∧ wx.frozen? ⟨w.heap.size, 2, none⟩ = false ∧ wr.heap.size < wx.heap.size ∧ b < wx.heap.size)
            case first =>
              go_region_held3 (fun w' => (Below w.heap.size w w' ∧ w.heap.size + 1 ≤ w'.heap.size) ∧ w'.cell? ⟨w.heap.size, 0, none⟩ = some (.int .i64 0) ∧ w'.cell? ⟨w.heap.size, 1, none⟩ = some (.int .i64 0) ∧ w'.cell? ⟨w.heap.size, 2, none⟩ = some (.int .i64 0) ∧ w'.cell? ⟨wr.heap.size, 0, none⟩ = some (.int .i64 g0) ∧ w'.cell? ⟨wr.heap.size, 1, none⟩ = some (.int .i64 g1) ∧ w'.cell? ⟨wr.heap.size, 2, none⟩ = some (.int .i64 g2) ∧ w'.cell? ⟨b, (off+k*3), none⟩ = some (.int .i64 x0) ∧ w'.cell? ⟨b, (off+k*3+1), none⟩ = some (.int .i64 x1) ∧ w'.cell? ⟨b, (off+k*3+2), none⟩ = some (.int .i64 x2) ∧ w'.frozen? ⟨w.heap.size, 0, none⟩ = false ∧ w'.frozen? ⟨w.heap.size, 1, none⟩ = false ∧ w'.frozen? ⟨w.heap.size, 2, none⟩ = false ∧ wr.heap.size < w'.heap.size ∧ b < w'.heap.size) (first | (go_split_ands; refine ⟨⟨?_, ?_⟩, ?_, ?_, ?_, ?_, ?_, ?_, ?_, ?_, ?_, ?_, ?_, ?_, ?_, ?_⟩ <;> first | (with_reducible assumption) | (with_reducible show Below _ _ _; (repeat (first | (with_reducible exact Below.refl _ _) | (with_reducible assumption) | (with_reducible refine below_drewN ?_ _) | (with_reducible refine Below.drew ?_) | ((with_reducible refine Below.alloc ?_ ?_ _); rotate_left; (focus first | omega | (simp <;> omega))) | ((with_reducible refine Below.setCell ?_ ?_ _); rotate_left; (focus first | omega | (simp <;> omega))))); done) | omega | (go_keep; done) | (go_simp; done) | (simp <;> omega) | (fail_if_success skip)))
                (first | (go_at_call 82; with_reducible refine (l05Cross_is HH.out HG.out HX.out HY.out HD.out _).mono ?_; rintro e w1 ⟨rfl, hb1⟩; go_split_ands; have cc0 := cell_keep (p := ⟨w.heap.size, 0, none⟩) (v := .int .i64 0) hb1 (by first | (with_reducible assumption) | (go_keep; done) | (go_simp; done) | (simp; done)) (by first | omega | (simp <;> omega)); have cc1 := cell_keep (p := ⟨w.heap.size, 1, none⟩) (v := .int .i64 0) hb1 (by first | (with_reducible assumption) | (go_keep; done) | (go_simp; done) | (simp; done)) (by first | omega | (simp <;> omega)); have cc2 := cell_keep (p := ⟨w.heap.size, 2, none⟩) (v := .int .i64 0) hb1 (by first | (with_reducible assumption) | (go_keep; done) | (go_simp; done) | (simp; done)) (by first | omega | (simp <;> omega)); have cc3 := cell_keep (p := ⟨wr.heap.size, 0, none⟩) (v := .int .i64 g0) hb1 (by first | (with_reducible assumption) | (go_keep; done) | (go_simp; done) | (simp; done)) (by first | omega | (simp <;> omega)); have cc4 := cell_keep (p := ⟨wr.heap.size, 1, none⟩) (v := .int .i64 g1) hb1 (by first | (with_reducible assumption) | (go_keep; done) | (go_simp; done) | (simp; done)) (by first | omega | (simp <;> omega)); have cc5 := cell_keep (p := ⟨wr.heap.size, 2, none⟩) (v := .int .i64 g2) hb1 (by first | (with_reducible assumption) | (go_keep; done) | (go_simp; done) | (simp; done)) (by first | omega | (simp <;> omega)); have cc6 := cell_keep (p := ⟨b, (off+k*3), none⟩) (v := .int .i64 x0) hb1 (by first | (with_reducible assumption) | (go_keep; done) | (go_simp; done) | (simp; done)) (by first | omega | (simp <;> omega)); have cc7 := cell_keep (p := ⟨b, (off+k*3+1), none⟩) (v := .int .i64 x1) hb1 (by first | (with_reducible assumption) | (go_keep; done) | (go_simp; done) | (simp; done)) (by first | omega | (simp <;> omega)); have cc8 := cell_keep (p := ⟨b, (off+k*3+2), none⟩) (v := .int .i64 x2) hb1 (by first | (with_reducible assumption) | (go_keep; done) | (go_simp; done) | (simp; done)) (by first | omega | (simp <;> omega)); have cf0 := frozen_keep (p := ⟨w.heap.size, 0, none⟩) hb1 (by first | (with_reducible assumption) | (go_keep; done) | (go_simp; done) | (simp; done)) (by first | omega | (simp <;> omega)); have cf1 := frozen_keep (p := ⟨w.heap.size, 1, none⟩) hb1 (by first | (with_reducible assumption) | (go_keep; done) | (go_simp; done) | (simp; done)) (by first | omega | (simp <;> omega)); have cf2 := frozen_keep (p := ⟨w.heap.size, 2, none⟩) hb1 (by first | (with_reducible assumption) | (go_keep; done) | (go_simp; done) | (simp; done)) (by first | omega | (simp <;> omega)); have hS1 : Below w.heap.size w w1 := S_below hb1 (by repeat (first | exact Below.refl _ _ | assumption | refine below_drewN ?_ _ | refine Below.drew ?_ | refine Below.alloc ?_ (by first | omega | (simp <;> omega)) _ | refine Below.setCell ?_ (by first | omega | (simp <;> omega)) _)) (by first | omega | (simp <;> omega)); have hz1 : w.heap.size + 1 ≤ w1.heap.size := S_size hb1 (by first | omega | (simp <;> omega)); have hqb0 : w.heap.size < w1.heap.size := S_lt hb1 (by first | omega | (simp <;> omega)); have hqb1 : wr.heap.size < w1.heap.size := S_lt hb1 (by first | omega | (simp <;> omega)); have hqb2 : b < w1.heap.size := S_lt hb1 (by first | omega | (simp <;> omega)); (first | (have hnz := S_lt hb1 hnz; have nb0 := cell_keep hb1 nb0 (by omega); have nb1 := cell_keep hb1 nb1 (by omega); have nb2 := cell_keep hb1 nb2 (by omega); have nf0 := frozen_keep hb1 nf0 (by omega); have nf1 := frozen_keep hb1 nf1 (by omega); have nf2 := frozen_keep hb1 nf2 (by omega)) | (have _tok : Below (World.drew (World.alloc _ (Obj.cells #[.int .i64 0,  .int .i64 0,  .int .i64 0] _ _))).heap.size _ w1 := hb1; go_must (have nb0 := cell_keep (p := ⟨wr.heap.size + 1, 0, none⟩) (v := .int .i64 0) hb1 (cell_new_drew _ _ _ _ (by simp) rfl) (by first | omega | (simp <;> omega))); go_must (have nb1 := cell_keep (p := ⟨wr.heap.size + 1, 1, none⟩) (v :=  .int .i64 0) hb1 (cell_new_drew _ _ _ _ (by simp) rfl) (by first | omega | (simp <;> omega))); go_must (have nb2 := cell_keep (p := ⟨wr.heap.size + 1, 2, none⟩) (v :=  .int .i64 0) hb1 (cell_new_drew _ _ _ _ (by simp) rfl) (by first | omega | (simp <;> omega))); go_must (have nf0 := frozen_keep (p := ⟨wr.heap.size + 1, 0, none⟩) hb1 (frozen_new_drew _ _ _ _ (by simp)) (by first | omega | (simp <;> omega))); go_must (have nf1 := frozen_keep (p := ⟨wr.heap.size + 1, 1, none⟩) hb1 (frozen_new_drew _ _ _ _ (by simp)) (by first | omega | (simp <;> omega))); go_must (have nf2 := frozen_keep (p := ⟨wr.heap.size + 1, 2, none⟩) hb1 (frozen_new_drew _ _ _ _ (by simp)) (by first | omega | (simp <;> omega))); go_must (have hnz : wr.heap.size + 1 < w1.heap.size := S_lt hb1 (by first | omega | (simp <;> omega))); go_must (have hnl : w.heap.size + 1 ≤ wr.heap.size + 1 := by omega); go_must (have hne0 : ¬ wr.heap.size + 1 = w.heap.size := by omega); go_must (have hnf0 : ¬ w.heap.size = wr.heap.size + 1 := by omega); go_must (have hne1 : ¬ wr.heap.size + 1 = wr.heap.size := by omega); go_must (have hnf1 : ¬ wr.heap.size = wr.heap.size + 1 := by omega); go_must (have hne2 : ¬ wr.heap.size + 1 = b := by omega); go_must (have hnf2 : ¬ b = wr.heap.size + 1 := by omega)) | (have nb0 := cell_keep hb1 (cell_new_at _ _ _ 0 (v := .int .i64 0) rfl) (new_lt _ _); have nb1 := cell_keep hb1 (cell_new_at _ _ _ 1 (v :=  .int .i64 0) rfl) (new_lt _ _); have nb2 := cell_keep hb1 (cell_new_at _ _ _ 2 (v :=  .int .i64 0) rfl) (new_lt _ _); have nf0 := frozen_keep hb1 (frozen_new_at _ _ _ 0) (new_lt _ _); have nf1 := frozen_keep hb1 (frozen_new_at _ _ _ 1) (new_lt _ _); have nf2 := frozen_keep hb1 (frozen_new_at _ _ _ 2) (new_lt _ _); have hnz := S_lt hb1 (new_lt _ _)) | skip)))
              all_goals
                go_split_ands
                go_wp2_with fail
                go_meet
                refine ⟨_, rfl, ?_, ?_, ?_, ?_, ?_, ?_, ?_, ?_, ?_, ?_, ?_, ?_, ?_, ?_, ?_, ?_, ?_, ?_, ?_, ?_, ?_⟩ <;> first | (with_reducible assumption) | omega | (simp only [World.size_setCell, World.size_alloc]; omega) | (go_keep; done) | (go_simp; done) | exact set_0 nb0 _ | exact set2_1 nb1 _ _ | exact set3_2 nb2 _ _ _ | (simp <;> omega)
            case rest =>
              obtain ⟨bp, rfl, hcut⟩ := hcut
              go_split_ands
              go_wp2_with fail
              go_at_call 83; with_reducible refine (l05Inside_is HV.out _ HN.out (HA.out.step (by assumption)) hm HK.out HPB.out).mono ?_
              rintro e wd ⟨rfl, hb1⟩
              have cc_wd0 := cell_keep (p := ⟨w.heap.size, 0, none⟩) (v := .int .i64 0) hb1 (by first | assumption | (go_keep; done) | (go_simp; done) | (simp; done)) (by first | omega | (simp <;> omega))
              have cc_wd1 := cell_keep (p := ⟨w.heap.size, 1, none⟩) (v := .int .i64 0) hb1 (by first | assumption | (go_keep; done) | (go_simp; done) | (simp; done)) (by first | omega | (simp <;> omega))
              have cc_wd2 := cell_keep (p := ⟨w.heap.size, 2, none⟩) (v := .int .i64 0) hb1 (by first | assumption | (go_keep; done) | (go_simp; done) | (simp; done)) (by first | omega | (simp <;> omega))
              have cc_wd3 := cell_keep (p := ⟨bp, 0, none⟩) (v := .int .i64 X) hb1 (by first | assumption | (go_keep; done) | (go_simp; done) | (simp; done)) (by first | omega | (simp <;> omega))
              have cc_wd4 := cell_keep (p := ⟨bp, 1, none⟩) (v := .int .i64 Y) hb1 (by first | assumption | (go_keep; done) | (go_simp; done) | (simp; done)) (by first | omega | (simp <;> omega))
              have cc_wd5 := cell_keep (p := ⟨bp, 2, none⟩) (v := .int .i64 D) hb1 (by first | assumption | (go_keep; done) | (go_simp; done) | (simp; done)) (by first | omega | (simp <;> omega))
              have cf_wd0 := frozen_keep (p := ⟨w.heap.size, 0, none⟩) hb1 (by first | assumption | (go_keep; done) | (go_simp; done) | (simp; done)) (by first | omega | (simp <;> omega))
              have cf_wd1 := frozen_keep (p := ⟨w.heap.size, 1, none⟩) hb1 (by first | assumption | (go_keep; done) | (go_simp; done) | (simp; done)) (by first | omega | (simp <;> omega))
              have cf_wd2 := frozen_keep (p := ⟨w.heap.size, 2, none⟩) hb1 (by first | assumption | (go_keep; done) | (go_simp; done) | (simp; done)) (by first | omega | (simp <;> omega))
              have hS1_wd : Below w.heap.size w wd := S_below hb1 (by repeat (first | exact Below.refl _ _ | assumption | refine below_drewN ?_ _ | refine Below.drew ?_ | refine Below.alloc ?_ (by first | omega | (simp <;> omega)) _ | refine Below.setCell ?_ (by first | omega | (simp <;> omega)) _)) (by first | omega | (simp <;> omega))
              have hz1_wd : w.heap.size + 1 ≤ wd.heap.size := S_size hb1 (by first | omega | (simp <;> omega))
              have hqb_wd0 : w.heap.size < wd.heap.size := S_lt hb1 (by first | omega | (simp <;> omega))
              have hqb_wd1 : bp < wd.heap.size := S_lt hb1 (by first | omega | (simp <;> omega))
              clear hb1
              go_wp2_with fail
              go_roundw
              case rel =>
                refine ⟨j + 1, some (g0, g1, g2), X, Y, D, by omega, by go_num, HS2, ⟨HX.out.symm, HY.out.symm, HD.out.symm⟩, (by first | (go_keep; done) | (go_simp; done) | (simp; done) | assumption | (rw [World.frozen?_alloc_past _ _ _ (by first | omega | (simp <;> omega))]; assumption) | (rw [World.cell?_alloc_past _ _ _ (by first | omega | (simp <;> omega))]; assumption)), (by first | (go_keep; done) | (go_simp; done) | (simp; done) | assumption | (rw [World.frozen?_alloc_past _ _ _ (by first | omega | (simp <;> omega))]; assumption) | (rw [World.cell?_alloc_past _ _ _ (by first | omega | (simp <;> omega))]; assumption)), (by first | (go_keep; done) | (go_simp; done) | (simp; done) | assumption | (rw [World.frozen?_alloc_past _ _ _ (by first | omega | (simp <;> omega))]; assumption) | (rw [World.cell?_alloc_past _ _ _ (by first | omega | (simp <;> omega))]; assumption)), (by first | (go_keep; done) | (go_simp; done) | (simp; done) | assumption | (rw [World.frozen?_alloc_past _ _ _ (by first | omega | (simp <;> omega))]; assumption) | (rw [World.cell?_alloc_past _ _ _ (by first | omega | (simp <;> omega))]; assumption)), (by first | (go_keep; done) | (go_simp; done) | (simp; done) | assumption | (rw [World.frozen?_alloc_past _ _ _ (by first | omega | (simp <;> omega))]; assumption) | (rw [World.cell?_alloc_past _ _ _ (by first | omega | (simp <;> omega))]; assumption)), (by first | (go_keep; done) | (go_simp; done) | (simp; done) | assumption | (rw [World.frozen?_alloc_past _ _ _ (by first | omega | (simp <;> omega))]; assumption) | (rw [World.cell?_alloc_past _ _ _ (by first | omega | (simp <;> omega))]; assumption)), by simp; omega, (by repeat (first | exact Below.refl _ _ | assumption | refine below_drewN ?_ _ | refine Below.drew ?_ | refine Below.alloc ?_ (by first | omega | (simp <;> omega)) _ | refine Below.setCell ?_ (by first | omega | (simp <;> omega)) _))⟩
              case measure => simp [intOf]; omega
          | some p =>
            obtain ⟨hf1, hf2, hf3⟩ := HF.out
            have hop := HK.out p (List.mem_of_mem_take HSn.out.1)
            obtain ⟨hd1, hsp⟩ := pt_spot HH.out hop HSn.out.2.1
            obtain ⟨_, hsj⟩ := pt_spot HH.out hhj hv
            have hb2 := pt_bounds HH.out hop
            rw [← hf1, ← hf2, ← hf3] at hsp hb2
            rw [← hf3] at hd1
            have hfd : (fd == 0) = false := by simp; omega
            have HSP := Lib.hid hsp
            have HPB2 := Lib.hid hb2
            clear hop hsp hb2
            by_cases hsm : samePt (x0, x1, x2) p hs[j]
            · have HS2 := Lib.hid (seen_same HSn.out hl1 hsm)
              unfold samePt at hsm
              rw [← hf1, ← hf2, ← hf3] at hsm
              clear hf1 hf2 hf3
              obtain ⟨X, hX⟩ : ∃ X, pX (x0, x1, x2) hs[j] = X := ⟨_, rfl⟩
              obtain ⟨Y, hY⟩ : ∃ Y, pY (x0, x1, x2) hs[j] = Y := ⟨_, rfl⟩
              obtain ⟨D, hD⟩ : ∃ D, pD (x0, x1, x2) hs[j] = D := ⟨_, rfl⟩
              rw [hX, hY, hD] at hpb
              have HPB := Lib.hid hpb
              have HV := Lib.hid (show insV hs X Y D = true by rw [← hX, ← hY, ← hD]; exact hv)
              rw [hX, hY, hD] at hsm; rw [hX, hY, hD] at hsj; have HSJ := Lib.hid hsj; have HSM := Lib.hid (show (!decide (fx * D = X * fd ∧ fy * D = Y * fd)) = false by rw [decide_eq_true hsm]; rfl); clear hsj hsm
              clear hpb hv
              have hjk' : ¬ (j : Int) = (k : Int) := by omega
              have l0 := cell_keep hb k0 hlb
              have l1 := cell_keep hb k1 hlb
              have l2 := cell_keep hb k2 hlb
              generalize hs[j] = g at *
              obtain ⟨g0, g1, g2⟩ := g
              simp only at c0 c1 c2
              have HG := Lib.hid hhj; have HX := Lib.hid hX; have HY := Lib.hid hY; have HD := Lib.hid hD
              clear hhj hX hY hD hjk
              go_wp2_with fail
              have hzl : w.heap.size < wr.heap.size := by omega
              have zz0 : (wr.alloc (.cells #[.int .i64 g0, .int .i64 g1, .int .i64 g2] 57)).drew.frozen? ⟨w.heap.size, 0, none⟩ = false := (World.frozen?_alloc_past _ _ _ (by omega)).trans z0
              have zz1 : (wr.alloc (.cells #[.int .i64 g0, .int .i64 g1, .int .i64 g2] 57)).drew.frozen? ⟨w.heap.size, 1, none⟩ = false := (World.frozen?_alloc_past _ _ _ (by omega)).trans z1
              have zz2 : (wr.alloc (.cells #[.int .i64 g0, .int .i64 g1, .int .i64 g2] 57)).drew.frozen? ⟨w.heap.size, 2, none⟩ = false := (World.frozen?_alloc_past _ _ _ (by omega)).trans z2
              have hS0 : Below w.heap.size w (wr.alloc (.cells #[.int .i64 g0, .int .i64 g1, .int .i64 g2] 57)).drew := (hb.alloc (by omega) _).drew
              go_upto_region 6 with fail
              go_cut [8] (fun s8 wx => ∃ bp : Nat, s8 = .pointer (some ⟨bp, 0, none⟩) ∧ Below w.heap.size w wx ∧ w.heap.size + 1 ≤ wx.heap.size ∧ w.heap.size + 1 ≤ bp ∧ bp < wx.heap.size ∧ wx.cell? ⟨bp, 0, none⟩ = some (.int .i64 X) ∧ wx.cell? ⟨bp, 1, none⟩ = some (.int .i64 Y) ∧ wx.cell? ⟨bp, 2, none⟩ = some (.int .i64 D) ∧ wx.cell? ⟨w.heap.size, 0, none⟩ = some (.int .i64 fx) ∧ wx.cell? ⟨w.heap.size, 1, none⟩ = some (.int .i64 fy) ∧ wx.cell? ⟨w.heap.size, 2, none⟩ = some (.int .i64 fd) ∧ wx.cell? ⟨wr.heap.size, 0, none⟩ = some (.int .i64 g0) ∧ wx.cell? ⟨wr.heap.size, 1, none⟩ = some (.int .i64 g1) ∧ wx.cell? ⟨wr.heap.size, 2, none⟩ = some (.int .i64 g2) ∧ wx.cell? ⟨b, (off+k*3), none⟩ = some (.int .i64 x0) ∧ wx.cell? ⟨b, (off+k*3+1), none⟩ = some (.int .i64 x1) ∧ wx.cell? ⟨b, (off+k*3+2), none⟩ = some (.int .i64 x2) ∧ wx.frozen? ⟨w.heap.size, 0, none⟩ = false ∧ wx.frozen? ⟨w.heap.size, 1, none⟩ = false ∧ wx.frozen? ⟨w.heap.size, 2, none⟩ = false ∧ wr.heap.size < wx.heap.size ∧ b < wx.heap.size)
              case first =>
                go_region_held3 (fun w' => (Below w.heap.size w w' ∧ w.heap.size + 1 ≤ w'.heap.size) ∧ w'.cell? ⟨w.heap.size, 0, none⟩ = some (.int .i64 fx) ∧ w'.cell? ⟨w.heap.size, 1, none⟩ = some (.int .i64 fy) ∧ w'.cell? ⟨w.heap.size, 2, none⟩ = some (.int .i64 fd) ∧ w'.cell? ⟨wr.heap.size, 0, none⟩ = some (.int .i64 g0) ∧ w'.cell? ⟨wr.heap.size, 1, none⟩ = some (.int .i64 g1) ∧ w'.cell? ⟨wr.heap.size, 2, none⟩ = some (.int .i64 g2) ∧ w'.cell? ⟨b, (off+k*3), none⟩ = some (.int .i64 x0) ∧ w'.cell? ⟨b, (off+k*3+1), none⟩ = some (.int .i64 x1) ∧ w'.cell? ⟨b, (off+k*3+2), none⟩ = some (.int .i64 x2) ∧ w'.frozen? ⟨w.heap.size, 0, none⟩ = false ∧ w'.frozen? ⟨w.heap.size, 1, none⟩ = false ∧ w'.frozen? ⟨w.heap.size, 2, none⟩ = false ∧ wr.heap.size < w'.heap.size ∧ b < w'.heap.size) (first | (go_split_ands; refine ⟨⟨?_, ?_⟩, ?_, ?_, ?_, ?_, ?_, ?_, ?_, ?_, ?_, ?_, ?_, ?_, ?_, ?_⟩ <;> first | (with_reducible assumption) | (with_reducible show Below _ _ _; (repeat (first | (with_reducible exact Below.refl _ _) | (with_reducible assumption) | (with_reducible refine below_drewN ?_ _) | (with_reducible refine Below.drew ?_) | ((with_reducible refine Below.alloc ?_ ?_ _); rotate_left; (focus first | omega | (simp <;> omega))) | ((with_reducible refine Below.setCell ?_ ?_ _); rotate_left; (focus first | omega | (simp <;> omega))))); done) | omega | (go_keep; done) | (go_simp; done) | (simp <;> omega) | (fail_if_success skip)))
                  (first | (go_at_call 82; with_reducible refine (l05Cross_is HH.out HG.out HX.out HY.out HD.out _).mono ?_; rintro e w1 ⟨rfl, hb1⟩; go_split_ands; have cc0 := cell_keep (p := ⟨w.heap.size, 0, none⟩) (v := .int .i64 fx) hb1 (by first | (with_reducible assumption) | (go_keep; done) | (go_simp; done) | (simp; done)) (by first | omega | (simp <;> omega)); have cc1 := cell_keep (p := ⟨w.heap.size, 1, none⟩) (v := .int .i64 fy) hb1 (by first | (with_reducible assumption) | (go_keep; done) | (go_simp; done) | (simp; done)) (by first | omega | (simp <;> omega)); have cc2 := cell_keep (p := ⟨w.heap.size, 2, none⟩) (v := .int .i64 fd) hb1 (by first | (with_reducible assumption) | (go_keep; done) | (go_simp; done) | (simp; done)) (by first | omega | (simp <;> omega)); have cc3 := cell_keep (p := ⟨wr.heap.size, 0, none⟩) (v := .int .i64 g0) hb1 (by first | (with_reducible assumption) | (go_keep; done) | (go_simp; done) | (simp; done)) (by first | omega | (simp <;> omega)); have cc4 := cell_keep (p := ⟨wr.heap.size, 1, none⟩) (v := .int .i64 g1) hb1 (by first | (with_reducible assumption) | (go_keep; done) | (go_simp; done) | (simp; done)) (by first | omega | (simp <;> omega)); have cc5 := cell_keep (p := ⟨wr.heap.size, 2, none⟩) (v := .int .i64 g2) hb1 (by first | (with_reducible assumption) | (go_keep; done) | (go_simp; done) | (simp; done)) (by first | omega | (simp <;> omega)); have cc6 := cell_keep (p := ⟨b, (off+k*3), none⟩) (v := .int .i64 x0) hb1 (by first | (with_reducible assumption) | (go_keep; done) | (go_simp; done) | (simp; done)) (by first | omega | (simp <;> omega)); have cc7 := cell_keep (p := ⟨b, (off+k*3+1), none⟩) (v := .int .i64 x1) hb1 (by first | (with_reducible assumption) | (go_keep; done) | (go_simp; done) | (simp; done)) (by first | omega | (simp <;> omega)); have cc8 := cell_keep (p := ⟨b, (off+k*3+2), none⟩) (v := .int .i64 x2) hb1 (by first | (with_reducible assumption) | (go_keep; done) | (go_simp; done) | (simp; done)) (by first | omega | (simp <;> omega)); have cf0 := frozen_keep (p := ⟨w.heap.size, 0, none⟩) hb1 (by first | (with_reducible assumption) | (go_keep; done) | (go_simp; done) | (simp; done)) (by first | omega | (simp <;> omega)); have cf1 := frozen_keep (p := ⟨w.heap.size, 1, none⟩) hb1 (by first | (with_reducible assumption) | (go_keep; done) | (go_simp; done) | (simp; done)) (by first | omega | (simp <;> omega)); have cf2 := frozen_keep (p := ⟨w.heap.size, 2, none⟩) hb1 (by first | (with_reducible assumption) | (go_keep; done) | (go_simp; done) | (simp; done)) (by first | omega | (simp <;> omega)); have hS1 : Below w.heap.size w w1 := S_below hb1 (by repeat (first | exact Below.refl _ _ | assumption | refine below_drewN ?_ _ | refine Below.drew ?_ | refine Below.alloc ?_ (by first | omega | (simp <;> omega)) _ | refine Below.setCell ?_ (by first | omega | (simp <;> omega)) _)) (by first | omega | (simp <;> omega)); have hz1 : w.heap.size + 1 ≤ w1.heap.size := S_size hb1 (by first | omega | (simp <;> omega)); have hqb0 : w.heap.size < w1.heap.size := S_lt hb1 (by first | omega | (simp <;> omega)); have hqb1 : wr.heap.size < w1.heap.size := S_lt hb1 (by first | omega | (simp <;> omega)); have hqb2 : b < w1.heap.size := S_lt hb1 (by first | omega | (simp <;> omega)); (first | (have hnz := S_lt hb1 hnz; have nb0 := cell_keep hb1 nb0 (by omega); have nb1 := cell_keep hb1 nb1 (by omega); have nb2 := cell_keep hb1 nb2 (by omega); have nf0 := frozen_keep hb1 nf0 (by omega); have nf1 := frozen_keep hb1 nf1 (by omega); have nf2 := frozen_keep hb1 nf2 (by omega)) | (have _tok : Below (World.drew (World.alloc _ (Obj.cells #[.int .i64 0,  .int .i64 0,  .int .i64 0] _ _))).heap.size _ w1 := hb1; go_must (have nb0 := cell_keep (p := ⟨wr.heap.size + 1, 0, none⟩) (v := .int .i64 0) hb1 (cell_new_drew _ _ _ _ (by simp) rfl) (by first | omega | (simp <;> omega))); go_must (have nb1 := cell_keep (p := ⟨wr.heap.size + 1, 1, none⟩) (v :=  .int .i64 0) hb1 (cell_new_drew _ _ _ _ (by simp) rfl) (by first | omega | (simp <;> omega))); go_must (have nb2 := cell_keep (p := ⟨wr.heap.size + 1, 2, none⟩) (v :=  .int .i64 0) hb1 (cell_new_drew _ _ _ _ (by simp) rfl) (by first | omega | (simp <;> omega))); go_must (have nf0 := frozen_keep (p := ⟨wr.heap.size + 1, 0, none⟩) hb1 (frozen_new_drew _ _ _ _ (by simp)) (by first | omega | (simp <;> omega))); go_must (have nf1 := frozen_keep (p := ⟨wr.heap.size + 1, 1, none⟩) hb1 (frozen_new_drew _ _ _ _ (by simp)) (by first | omega | (simp <;> omega))); go_must (have nf2 := frozen_keep (p := ⟨wr.heap.size + 1, 2, none⟩) hb1 (frozen_new_drew _ _ _ _ (by simp)) (by first | omega | (simp <;> omega))); go_must (have hnz : wr.heap.size + 1 < w1.heap.size := S_lt hb1 (by first | omega | (simp <;> omega))); go_must (have hnl : w.heap.size + 1 ≤ wr.heap.size + 1 := by omega); go_must (have hne0 : ¬ wr.heap.size + 1 = w.heap.size := by omega); go_must (have hnf0 : ¬ w.heap.size = wr.heap.size + 1 := by omega); go_must (have hne1 : ¬ wr.heap.size + 1 = wr.heap.size := by omega); go_must (have hnf1 : ¬ wr.heap.size = wr.heap.size + 1 := by omega); go_must (have hne2 : ¬ wr.heap.size + 1 = b := by omega); go_must (have hnf2 : ¬ b = wr.heap.size + 1 := by omega)) | (have nb0 := cell_keep hb1 (cell_new_at _ _ _ 0 (v := .int .i64 0) rfl) (new_lt _ _); have nb1 := cell_keep hb1 (cell_new_at _ _ _ 1 (v :=  .int .i64 0) rfl) (new_lt _ _); have nb2 := cell_keep hb1 (cell_new_at _ _ _ 2 (v :=  .int .i64 0) rfl) (new_lt _ _); have nf0 := frozen_keep hb1 (frozen_new_at _ _ _ 0) (new_lt _ _); have nf1 := frozen_keep hb1 (frozen_new_at _ _ _ 1) (new_lt _ _); have nf2 := frozen_keep hb1 (frozen_new_at _ _ _ 2) (new_lt _ _); have hnz := S_lt hb1 (new_lt _ _)) | skip)))
                all_goals
                  go_split_ands
                  go_wp2_with fail
                  go_meet
                  refine ⟨_, rfl, ?_, ?_, ?_, ?_, ?_, ?_, ?_, ?_, ?_, ?_, ?_, ?_, ?_, ?_, ?_, ?_, ?_, ?_, ?_, ?_, ?_⟩ <;> first | (with_reducible assumption) | omega | (simp only [World.size_setCell, World.size_alloc]; omega) | (go_keep; done) | (go_simp; done) | exact set_0 nb0 _ | exact set2_1 nb1 _ _ | exact set3_2 nb2 _ _ _ | (simp <;> omega)
              case rest =>
                obtain ⟨bp, rfl, hcut⟩ := hcut
                go_split_ands
                go_wp2_with fail
                go_at_call 83; with_reducible refine (l05Inside_is HV.out _ HN.out (HA.out.step (by assumption)) hm HK.out HPB.out).mono ?_
                rintro e wd ⟨rfl, hb1⟩
                have cc_wd0 := cell_keep (p := ⟨w.heap.size, 0, none⟩) (v := .int .i64 fx) hb1 (by first | assumption | (go_keep; done) | (go_simp; done) | (simp; done)) (by first | omega | (simp <;> omega))
                have cc_wd1 := cell_keep (p := ⟨w.heap.size, 1, none⟩) (v := .int .i64 fy) hb1 (by first | assumption | (go_keep; done) | (go_simp; done) | (simp; done)) (by first | omega | (simp <;> omega))
                have cc_wd2 := cell_keep (p := ⟨w.heap.size, 2, none⟩) (v := .int .i64 fd) hb1 (by first | assumption | (go_keep; done) | (go_simp; done) | (simp; done)) (by first | omega | (simp <;> omega))
                have cc_wd3 := cell_keep (p := ⟨bp, 0, none⟩) (v := .int .i64 X) hb1 (by first | assumption | (go_keep; done) | (go_simp; done) | (simp; done)) (by first | omega | (simp <;> omega))
                have cc_wd4 := cell_keep (p := ⟨bp, 1, none⟩) (v := .int .i64 Y) hb1 (by first | assumption | (go_keep; done) | (go_simp; done) | (simp; done)) (by first | omega | (simp <;> omega))
                have cc_wd5 := cell_keep (p := ⟨bp, 2, none⟩) (v := .int .i64 D) hb1 (by first | assumption | (go_keep; done) | (go_simp; done) | (simp; done)) (by first | omega | (simp <;> omega))
                have cf_wd0 := frozen_keep (p := ⟨w.heap.size, 0, none⟩) hb1 (by first | assumption | (go_keep; done) | (go_simp; done) | (simp; done)) (by first | omega | (simp <;> omega))
                have cf_wd1 := frozen_keep (p := ⟨w.heap.size, 1, none⟩) hb1 (by first | assumption | (go_keep; done) | (go_simp; done) | (simp; done)) (by first | omega | (simp <;> omega))
                have cf_wd2 := frozen_keep (p := ⟨w.heap.size, 2, none⟩) hb1 (by first | assumption | (go_keep; done) | (go_simp; done) | (simp; done)) (by first | omega | (simp <;> omega))
                have hS1_wd : Below w.heap.size w wd := S_below hb1 (by repeat (first | exact Below.refl _ _ | assumption | refine below_drewN ?_ _ | refine Below.drew ?_ | refine Below.alloc ?_ (by first | omega | (simp <;> omega)) _ | refine Below.setCell ?_ (by first | omega | (simp <;> omega)) _)) (by first | omega | (simp <;> omega))
                have hz1_wd : w.heap.size + 1 ≤ wd.heap.size := S_size hb1 (by first | omega | (simp <;> omega))
                have hqb_wd0 : w.heap.size < wd.heap.size := S_lt hb1 (by first | omega | (simp <;> omega))
                have hqb_wd1 : bp < wd.heap.size := S_lt hb1 (by first | omega | (simp <;> omega))
                clear hb1
                go_wp2_with fail
                go_at_call 84; with_reducible refine (l05Differ_is HSP.out HSJ.out HSM.out HPB2.out HPB.out _).mono ?_
                rintro e we ⟨rfl, hb1⟩
                have cc_we0 := cell_keep (p := ⟨w.heap.size, 0, none⟩) (v := .int .i64 fx) hb1 (by first | assumption | (go_keep; done) | (go_simp; done) | (simp; done)) (by first | omega | (simp <;> omega))
                have cc_we1 := cell_keep (p := ⟨w.heap.size, 1, none⟩) (v := .int .i64 fy) hb1 (by first | assumption | (go_keep; done) | (go_simp; done) | (simp; done)) (by first | omega | (simp <;> omega))
                have cc_we2 := cell_keep (p := ⟨w.heap.size, 2, none⟩) (v := .int .i64 fd) hb1 (by first | assumption | (go_keep; done) | (go_simp; done) | (simp; done)) (by first | omega | (simp <;> omega))
                have cc_we3 := cell_keep (p := ⟨bp, 0, none⟩) (v := .int .i64 X) hb1 (by first | assumption | (go_keep; done) | (go_simp; done) | (simp; done)) (by first | omega | (simp <;> omega))
                have cc_we4 := cell_keep (p := ⟨bp, 1, none⟩) (v := .int .i64 Y) hb1 (by first | assumption | (go_keep; done) | (go_simp; done) | (simp; done)) (by first | omega | (simp <;> omega))
                have cc_we5 := cell_keep (p := ⟨bp, 2, none⟩) (v := .int .i64 D) hb1 (by first | assumption | (go_keep; done) | (go_simp; done) | (simp; done)) (by first | omega | (simp <;> omega))
                have cf_we0 := frozen_keep (p := ⟨w.heap.size, 0, none⟩) hb1 (by first | assumption | (go_keep; done) | (go_simp; done) | (simp; done)) (by first | omega | (simp <;> omega))
                have cf_we1 := frozen_keep (p := ⟨w.heap.size, 1, none⟩) hb1 (by first | assumption | (go_keep; done) | (go_simp; done) | (simp; done)) (by first | omega | (simp <;> omega))
                have cf_we2 := frozen_keep (p := ⟨w.heap.size, 2, none⟩) hb1 (by first | assumption | (go_keep; done) | (go_simp; done) | (simp; done)) (by first | omega | (simp <;> omega))
                have hS1_we : Below w.heap.size w we := S_below hb1 (by repeat (first | exact Below.refl _ _ | assumption | refine below_drewN ?_ _ | refine Below.drew ?_ | refine Below.alloc ?_ (by first | omega | (simp <;> omega)) _ | refine Below.setCell ?_ (by first | omega | (simp <;> omega)) _)) (by first | omega | (simp <;> omega))
                have hz1_we : w.heap.size + 1 ≤ we.heap.size := S_size hb1 (by first | omega | (simp <;> omega))
                have hqb_we0 : w.heap.size < we.heap.size := S_lt hb1 (by first | omega | (simp <;> omega))
                have hqb_we1 : bp < we.heap.size := S_lt hb1 (by first | omega | (simp <;> omega))
                clear hb1
                go_wp2_with fail
                go_roundw
                case rel => exact ⟨j + 1, some p, fx, fy, fd, by omega, by go_num, HS2, HF, cc_we0, cc_we1, cc_we2, cf_we0, cf_we1, cf_we2, hz1_we, hS1_we⟩
                case measure => simp [intOf]; omega
            · have HE := Lib.hid (seen_diff HSn.out hl1 hv hsm)
              unfold samePt at hsm
              rw [← hf1, ← hf2, ← hf3] at hsm
              clear hf1 hf2 hf3
              obtain ⟨X, hX⟩ : ∃ X, pX (x0, x1, x2) hs[j] = X := ⟨_, rfl⟩
              obtain ⟨Y, hY⟩ : ∃ Y, pY (x0, x1, x2) hs[j] = Y := ⟨_, rfl⟩
              obtain ⟨D, hD⟩ : ∃ D, pD (x0, x1, x2) hs[j] = D := ⟨_, rfl⟩
              rw [hX, hY, hD] at hpb
              have HPB := Lib.hid hpb
              have HV := Lib.hid (show insV hs X Y D = true by rw [← hX, ← hY, ← hD]; exact hv)
              rw [hX, hY, hD] at hsm; rw [hX, hY, hD] at hsj; have HSJ := Lib.hid hsj; have HSM := Lib.hid (show (!decide (fx * D = X * fd ∧ fy * D = Y * fd)) = true by rw [decide_eq_false hsm]; rfl); clear hsj hsm
              clear hpb hv
              have hjk' : ¬ (j : Int) = (k : Int) := by omega
              have l0 := cell_keep hb k0 hlb
              have l1 := cell_keep hb k1 hlb
              have l2 := cell_keep hb k2 hlb
              generalize hs[j] = g at *
              obtain ⟨g0, g1, g2⟩ := g
              simp only at c0 c1 c2
              have HG := Lib.hid hhj; have HX := Lib.hid hX; have HY := Lib.hid hY; have HD := Lib.hid hD
              clear hhj hX hY hD hjk
              go_wp2_with fail
              have hzl : w.heap.size < wr.heap.size := by omega
              have zz0 : (wr.alloc (.cells #[.int .i64 g0, .int .i64 g1, .int .i64 g2] 57)).drew.frozen? ⟨w.heap.size, 0, none⟩ = false := (World.frozen?_alloc_past _ _ _ (by omega)).trans z0
              have zz1 : (wr.alloc (.cells #[.int .i64 g0, .int .i64 g1, .int .i64 g2] 57)).drew.frozen? ⟨w.heap.size, 1, none⟩ = false := (World.frozen?_alloc_past _ _ _ (by omega)).trans z1
              have zz2 : (wr.alloc (.cells #[.int .i64 g0, .int .i64 g1, .int .i64 g2] 57)).drew.frozen? ⟨w.heap.size, 2, none⟩ = false := (World.frozen?_alloc_past _ _ _ (by omega)).trans z2
              have hS0 : Below w.heap.size w (wr.alloc (.cells #[.int .i64 g0, .int .i64 g1, .int .i64 g2] 57)).drew := (hb.alloc (by omega) _).drew
              go_upto_region 6 with fail
              go_cut [8] (fun s8 wx => ∃ bp : Nat, s8 = .pointer (some ⟨bp, 0, none⟩) ∧ Below w.heap.size w wx ∧ w.heap.size + 1 ≤ wx.heap.size ∧ w.heap.size + 1 ≤ bp ∧ bp < wx.heap.size ∧ wx.cell? ⟨bp, 0, none⟩ = some (.int .i64 X) ∧ wx.cell? ⟨bp, 1, none⟩ = some (.int .i64 Y) ∧ wx.cell? ⟨bp, 2, none⟩ = some (.int .i64 D) ∧ wx.cell? ⟨w.heap.size, 0, none⟩ = some (.int .i64 fx) ∧ wx.cell? ⟨w.heap.size, 1, none⟩ = some (.int .i64 fy) ∧ wx.cell? ⟨w.heap.size, 2, none⟩ = some (.int .i64 fd) ∧ wx.cell? ⟨wr.heap.size, 0, none⟩ = some (.int .i64 g0) ∧ wx.cell? ⟨wr.heap.size, 1, none⟩ = some (.int .i64 g1) ∧ wx.cell? ⟨wr.heap.size, 2, none⟩ = some (.int .i64 g2) ∧ wx.cell? ⟨b, (off+k*3), none⟩ = some (.int .i64 x0) ∧ wx.cell? ⟨b, (off+k*3+1), none⟩ = some (.int .i64 x1) ∧ wx.cell? ⟨b, (off+k*3+2), none⟩ = some (.int .i64 x2) ∧ wx.frozen? ⟨w.heap.size, 0, none⟩ = false ∧ wx.frozen? ⟨w.heap.size, 1, none⟩ = false ∧ wx.frozen? ⟨w.heap.size, 2, none⟩ = false ∧ wr.heap.size < wx.heap.size ∧ b < wx.heap.size)
              case first =>
                go_region_held3 (fun w' => (Below w.heap.size w w' ∧ w.heap.size + 1 ≤ w'.heap.size) ∧ w'.cell? ⟨w.heap.size, 0, none⟩ = some (.int .i64 fx) ∧ w'.cell? ⟨w.heap.size, 1, none⟩ = some (.int .i64 fy) ∧ w'.cell? ⟨w.heap.size, 2, none⟩ = some (.int .i64 fd) ∧ w'.cell? ⟨wr.heap.size, 0, none⟩ = some (.int .i64 g0) ∧ w'.cell? ⟨wr.heap.size, 1, none⟩ = some (.int .i64 g1) ∧ w'.cell? ⟨wr.heap.size, 2, none⟩ = some (.int .i64 g2) ∧ w'.cell? ⟨b, (off+k*3), none⟩ = some (.int .i64 x0) ∧ w'.cell? ⟨b, (off+k*3+1), none⟩ = some (.int .i64 x1) ∧ w'.cell? ⟨b, (off+k*3+2), none⟩ = some (.int .i64 x2) ∧ w'.frozen? ⟨w.heap.size, 0, none⟩ = false ∧ w'.frozen? ⟨w.heap.size, 1, none⟩ = false ∧ w'.frozen? ⟨w.heap.size, 2, none⟩ = false ∧ wr.heap.size < w'.heap.size ∧ b < w'.heap.size) (first | (go_split_ands; refine ⟨⟨?_, ?_⟩, ?_, ?_, ?_, ?_, ?_, ?_, ?_, ?_, ?_, ?_, ?_, ?_, ?_, ?_⟩ <;> first | (with_reducible assumption) | (with_reducible show Below _ _ _; (repeat (first | (with_reducible exact Below.refl _ _) | (with_reducible assumption) | (with_reducible refine below_drewN ?_ _) | (with_reducible refine Below.drew ?_) | ((with_reducible refine Below.alloc ?_ ?_ _); rotate_left; (focus first | omega | (simp <;> omega))) | ((with_reducible refine Below.setCell ?_ ?_ _); rotate_left; (focus first | omega | (simp <;> omega))))); done) | omega | (go_keep; done) | (go_simp; done) | (simp <;> omega) | (fail_if_success skip)))
                  (first | (go_at_call 82; with_reducible refine (l05Cross_is HH.out HG.out HX.out HY.out HD.out _).mono ?_; rintro e w1 ⟨rfl, hb1⟩; go_split_ands; have cc0 := cell_keep (p := ⟨w.heap.size, 0, none⟩) (v := .int .i64 fx) hb1 (by first | (with_reducible assumption) | (go_keep; done) | (go_simp; done) | (simp; done)) (by first | omega | (simp <;> omega)); have cc1 := cell_keep (p := ⟨w.heap.size, 1, none⟩) (v := .int .i64 fy) hb1 (by first | (with_reducible assumption) | (go_keep; done) | (go_simp; done) | (simp; done)) (by first | omega | (simp <;> omega)); have cc2 := cell_keep (p := ⟨w.heap.size, 2, none⟩) (v := .int .i64 fd) hb1 (by first | (with_reducible assumption) | (go_keep; done) | (go_simp; done) | (simp; done)) (by first | omega | (simp <;> omega)); have cc3 := cell_keep (p := ⟨wr.heap.size, 0, none⟩) (v := .int .i64 g0) hb1 (by first | (with_reducible assumption) | (go_keep; done) | (go_simp; done) | (simp; done)) (by first | omega | (simp <;> omega)); have cc4 := cell_keep (p := ⟨wr.heap.size, 1, none⟩) (v := .int .i64 g1) hb1 (by first | (with_reducible assumption) | (go_keep; done) | (go_simp; done) | (simp; done)) (by first | omega | (simp <;> omega)); have cc5 := cell_keep (p := ⟨wr.heap.size, 2, none⟩) (v := .int .i64 g2) hb1 (by first | (with_reducible assumption) | (go_keep; done) | (go_simp; done) | (simp; done)) (by first | omega | (simp <;> omega)); have cc6 := cell_keep (p := ⟨b, (off+k*3), none⟩) (v := .int .i64 x0) hb1 (by first | (with_reducible assumption) | (go_keep; done) | (go_simp; done) | (simp; done)) (by first | omega | (simp <;> omega)); have cc7 := cell_keep (p := ⟨b, (off+k*3+1), none⟩) (v := .int .i64 x1) hb1 (by first | (with_reducible assumption) | (go_keep; done) | (go_simp; done) | (simp; done)) (by first | omega | (simp <;> omega)); have cc8 := cell_keep (p := ⟨b, (off+k*3+2), none⟩) (v := .int .i64 x2) hb1 (by first | (with_reducible assumption) | (go_keep; done) | (go_simp; done) | (simp; done)) (by first | omega | (simp <;> omega)); have cf0 := frozen_keep (p := ⟨w.heap.size, 0, none⟩) hb1 (by first | (with_reducible assumption) | (go_keep; done) | (go_simp; done) | (simp; done)) (by first | omega | (simp <;> omega)); have cf1 := frozen_keep (p := ⟨w.heap.size, 1, none⟩) hb1 (by first | (with_reducible assumption) | (go_keep; done) | (go_simp; done) | (simp; done)) (by first | omega | (simp <;> omega)); have cf2 := frozen_keep (p := ⟨w.heap.size, 2, none⟩) hb1 (by first | (with_reducible assumption) | (go_keep; done) | (go_simp; done) | (simp; done)) (by first | omega | (simp <;> omega)); have hS1 : Below w.heap.size w w1 := S_below hb1 (by repeat (first | exact Below.refl _ _ | assumption | refine below_drewN ?_ _ | refine Below.drew ?_ | refine Below.alloc ?_ (by first | omega | (simp <;> omega)) _ | refine Below.setCell ?_ (by first | omega | (simp <;> omega)) _)) (by first | omega | (simp <;> omega)); have hz1 : w.heap.size + 1 ≤ w1.heap.size := S_size hb1 (by first | omega | (simp <;> omega)); have hqb0 : w.heap.size < w1.heap.size := S_lt hb1 (by first | omega | (simp <;> omega)); have hqb1 : wr.heap.size < w1.heap.size := S_lt hb1 (by first | omega | (simp <;> omega)); have hqb2 : b < w1.heap.size := S_lt hb1 (by first | omega | (simp <;> omega)); (first | (have hnz := S_lt hb1 hnz; have nb0 := cell_keep hb1 nb0 (by omega); have nb1 := cell_keep hb1 nb1 (by omega); have nb2 := cell_keep hb1 nb2 (by omega); have nf0 := frozen_keep hb1 nf0 (by omega); have nf1 := frozen_keep hb1 nf1 (by omega); have nf2 := frozen_keep hb1 nf2 (by omega)) | (have _tok : Below (World.drew (World.alloc _ (Obj.cells #[.int .i64 0,  .int .i64 0,  .int .i64 0] _ _))).heap.size _ w1 := hb1; go_must (have nb0 := cell_keep (p := ⟨wr.heap.size + 1, 0, none⟩) (v := .int .i64 0) hb1 (cell_new_drew _ _ _ _ (by simp) rfl) (by first | omega | (simp <;> omega))); go_must (have nb1 := cell_keep (p := ⟨wr.heap.size + 1, 1, none⟩) (v :=  .int .i64 0) hb1 (cell_new_drew _ _ _ _ (by simp) rfl) (by first | omega | (simp <;> omega))); go_must (have nb2 := cell_keep (p := ⟨wr.heap.size + 1, 2, none⟩) (v :=  .int .i64 0) hb1 (cell_new_drew _ _ _ _ (by simp) rfl) (by first | omega | (simp <;> omega))); go_must (have nf0 := frozen_keep (p := ⟨wr.heap.size + 1, 0, none⟩) hb1 (frozen_new_drew _ _ _ _ (by simp)) (by first | omega | (simp <;> omega))); go_must (have nf1 := frozen_keep (p := ⟨wr.heap.size + 1, 1, none⟩) hb1 (frozen_new_drew _ _ _ _ (by simp)) (by first | omega | (simp <;> omega))); go_must (have nf2 := frozen_keep (p := ⟨wr.heap.size + 1, 2, none⟩) hb1 (frozen_new_drew _ _ _ _ (by simp)) (by first | omega | (simp <;> omega))); go_must (have hnz : wr.heap.size + 1 < w1.heap.size := S_lt hb1 (by first | omega | (simp <;> omega))); go_must (have hnl : w.heap.size + 1 ≤ wr.heap.size + 1 := by omega); go_must (have hne0 : ¬ wr.heap.size + 1 = w.heap.size := by omega); go_must (have hnf0 : ¬ w.heap.size = wr.heap.size + 1 := by omega); go_must (have hne1 : ¬ wr.heap.size + 1 = wr.heap.size := by omega); go_must (have hnf1 : ¬ wr.heap.size = wr.heap.size + 1 := by omega); go_must (have hne2 : ¬ wr.heap.size + 1 = b := by omega); go_must (have hnf2 : ¬ b = wr.heap.size + 1 := by omega)) | (have nb0 := cell_keep hb1 (cell_new_at _ _ _ 0 (v := .int .i64 0) rfl) (new_lt _ _); have nb1 := cell_keep hb1 (cell_new_at _ _ _ 1 (v :=  .int .i64 0) rfl) (new_lt _ _); have nb2 := cell_keep hb1 (cell_new_at _ _ _ 2 (v :=  .int .i64 0) rfl) (new_lt _ _); have nf0 := frozen_keep hb1 (frozen_new_at _ _ _ 0) (new_lt _ _); have nf1 := frozen_keep hb1 (frozen_new_at _ _ _ 1) (new_lt _ _); have nf2 := frozen_keep hb1 (frozen_new_at _ _ _ 2) (new_lt _ _); have hnz := S_lt hb1 (new_lt _ _)) | skip)))
                all_goals
                  go_split_ands
                  go_wp2_with fail
                  go_meet
                  refine ⟨_, rfl, ?_, ?_, ?_, ?_, ?_, ?_, ?_, ?_, ?_, ?_, ?_, ?_, ?_, ?_, ?_, ?_, ?_, ?_, ?_, ?_, ?_⟩ <;> first | (with_reducible assumption) | omega | (simp only [World.size_setCell, World.size_alloc]; omega) | (go_keep; done) | (go_simp; done) | exact set_0 nb0 _ | exact set2_1 nb1 _ _ | exact set3_2 nb2 _ _ _ | (simp <;> omega)
              case rest =>
                obtain ⟨bp, rfl, hcut⟩ := hcut
                go_split_ands
                go_wp2_with fail
                go_at_call 83; with_reducible refine (l05Inside_is HV.out _ HN.out (HA.out.step (by assumption)) hm HK.out HPB.out).mono ?_
                rintro e wd ⟨rfl, hb1⟩
                have cc_wd0 := cell_keep (p := ⟨w.heap.size, 0, none⟩) (v := .int .i64 fx) hb1 (by first | assumption | (go_keep; done) | (go_simp; done) | (simp; done)) (by first | omega | (simp <;> omega))
                have cc_wd1 := cell_keep (p := ⟨w.heap.size, 1, none⟩) (v := .int .i64 fy) hb1 (by first | assumption | (go_keep; done) | (go_simp; done) | (simp; done)) (by first | omega | (simp <;> omega))
                have cc_wd2 := cell_keep (p := ⟨w.heap.size, 2, none⟩) (v := .int .i64 fd) hb1 (by first | assumption | (go_keep; done) | (go_simp; done) | (simp; done)) (by first | omega | (simp <;> omega))
                have cc_wd3 := cell_keep (p := ⟨bp, 0, none⟩) (v := .int .i64 X) hb1 (by first | assumption | (go_keep; done) | (go_simp; done) | (simp; done)) (by first | omega | (simp <;> omega))
                have cc_wd4 := cell_keep (p := ⟨bp, 1, none⟩) (v := .int .i64 Y) hb1 (by first | assumption | (go_keep; done) | (go_simp; done) | (simp; done)) (by first | omega | (simp <;> omega))
                have cc_wd5 := cell_keep (p := ⟨bp, 2, none⟩) (v := .int .i64 D) hb1 (by first | assumption | (go_keep; done) | (go_simp; done) | (simp; done)) (by first | omega | (simp <;> omega))
                have cf_wd0 := frozen_keep (p := ⟨w.heap.size, 0, none⟩) hb1 (by first | assumption | (go_keep; done) | (go_simp; done) | (simp; done)) (by first | omega | (simp <;> omega))
                have cf_wd1 := frozen_keep (p := ⟨w.heap.size, 1, none⟩) hb1 (by first | assumption | (go_keep; done) | (go_simp; done) | (simp; done)) (by first | omega | (simp <;> omega))
                have cf_wd2 := frozen_keep (p := ⟨w.heap.size, 2, none⟩) hb1 (by first | assumption | (go_keep; done) | (go_simp; done) | (simp; done)) (by first | omega | (simp <;> omega))
                have hS1_wd : Below w.heap.size w wd := S_below hb1 (by repeat (first | exact Below.refl _ _ | assumption | refine below_drewN ?_ _ | refine Below.drew ?_ | refine Below.alloc ?_ (by first | omega | (simp <;> omega)) _ | refine Below.setCell ?_ (by first | omega | (simp <;> omega)) _)) (by first | omega | (simp <;> omega))
                have hz1_wd : w.heap.size + 1 ≤ wd.heap.size := S_size hb1 (by first | omega | (simp <;> omega))
                have hqb_wd0 : w.heap.size < wd.heap.size := S_lt hb1 (by first | omega | (simp <;> omega))
                have hqb_wd1 : bp < wd.heap.size := S_lt hb1 (by first | omega | (simp <;> omega))
                clear hb1
                go_wp2_with fail
                go_at_call 84; with_reducible refine (l05Differ_is HSP.out HSJ.out HSM.out HPB2.out HPB.out _).mono ?_
                rintro e we ⟨rfl, hb1⟩
                have cc_we0 := cell_keep (p := ⟨w.heap.size, 0, none⟩) (v := .int .i64 fx) hb1 (by first | assumption | (go_keep; done) | (go_simp; done) | (simp; done)) (by first | omega | (simp <;> omega))
                have cc_we1 := cell_keep (p := ⟨w.heap.size, 1, none⟩) (v := .int .i64 fy) hb1 (by first | assumption | (go_keep; done) | (go_simp; done) | (simp; done)) (by first | omega | (simp <;> omega))
                have cc_we2 := cell_keep (p := ⟨w.heap.size, 2, none⟩) (v := .int .i64 fd) hb1 (by first | assumption | (go_keep; done) | (go_simp; done) | (simp; done)) (by first | omega | (simp <;> omega))
                have cc_we3 := cell_keep (p := ⟨bp, 0, none⟩) (v := .int .i64 X) hb1 (by first | assumption | (go_keep; done) | (go_simp; done) | (simp; done)) (by first | omega | (simp <;> omega))
                have cc_we4 := cell_keep (p := ⟨bp, 1, none⟩) (v := .int .i64 Y) hb1 (by first | assumption | (go_keep; done) | (go_simp; done) | (simp; done)) (by first | omega | (simp <;> omega))
                have cc_we5 := cell_keep (p := ⟨bp, 2, none⟩) (v := .int .i64 D) hb1 (by first | assumption | (go_keep; done) | (go_simp; done) | (simp; done)) (by first | omega | (simp <;> omega))
                have cf_we0 := frozen_keep (p := ⟨w.heap.size, 0, none⟩) hb1 (by first | assumption | (go_keep; done) | (go_simp; done) | (simp; done)) (by first | omega | (simp <;> omega))
                have cf_we1 := frozen_keep (p := ⟨w.heap.size, 1, none⟩) hb1 (by first | assumption | (go_keep; done) | (go_simp; done) | (simp; done)) (by first | omega | (simp <;> omega))
                have cf_we2 := frozen_keep (p := ⟨w.heap.size, 2, none⟩) hb1 (by first | assumption | (go_keep; done) | (go_simp; done) | (simp; done)) (by first | omega | (simp <;> omega))
                have hS1_we : Below w.heap.size w we := S_below hb1 (by repeat (first | exact Below.refl _ _ | assumption | refine below_drewN ?_ _ | refine Below.drew ?_ | refine Below.alloc ?_ (by first | omega | (simp <;> omega)) _ | refine Below.setCell ?_ (by first | omega | (simp <;> omega)) _)) (by first | omega | (simp <;> omega))
                have hz1_we : w.heap.size + 1 ≤ we.heap.size := S_size hb1 (by first | omega | (simp <;> omega))
                have hqb_we0 : w.heap.size < we.heap.size := S_lt hb1 (by first | omega | (simp <;> omega))
                have hqb_we1 : bp < we.heap.size := S_lt hb1 (by first | omega | (simp <;> omega))
                clear hb1
                go_wp2_with fail
                go_ret
                exact ⟨true, rfl, ⟨fun _ => HE.out, fun _ => rfl⟩, hS1_we⟩
    · have HE := Lib.hid (seen_end HSn.out (by have := HN.out; omega) HH.out HK.out)
      go_wp2_with fail
      go_ret
      exact ⟨false, rfl, ⟨(fun e => nomatch e), fun e => absurd e HE.out⟩, (by repeat (first | exact Below.refl _ _ | assumption | refine below_drewN ?_ _ | refine Below.drew ?_ | refine Below.alloc ?_ (by first | omega | (simp <;> omega)) _ | refine Below.setCell ?_ (by first | omega | (simp <;> omega)) _))⟩

end Go.Proofs.Ythdaoadleeelnaa
