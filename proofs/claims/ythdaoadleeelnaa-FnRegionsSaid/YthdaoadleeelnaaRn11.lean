/- l05IsEdge of the reference: do two different points of a border lie inside? l05Make of the reference: the region of half planes. -/
import Derived.Test.YthdaoadleeelnaaPts
import Derived.Test.YthdaoadleeelnaaRn4
import Derived.Test.YthdaoadleeelnaaNew
import Derived.Test.YthdaoadleeelnaaRn10
namespace Go.Proofs.Ythdaoadleeelnaa
open Go.ChangeShapes Go.WideShapes Go.ChangeAt Go.RowKit
attribute [local go_sem ↓] Go.wp_at_zero Go.wp_at_succ
set_option linter.unusedVariables false

theorem l05Cross_is {a b c a' b' c' X Y D : Int} (hg : okH (a, b, c) = true) (hh : okH (a', b', c') = true) (hX : pX (a, b, c) (a', b', c') = X) (hY : pY (a, b, c) (a', b', c') = Y) (hD : pD (a, b, c) (a', b', c') = D) (w : World) :
    Calls Try.prog 82 #[.agg #[.int .i64 a, .int .i64 b, .int .i64 c], .agg #[.int .i64 a', .int .i64 b', .int .i64 c']] w fun e w' => e = .returned (.agg #[.int .i64 X, .int .i64 Y, .int .i64 D]) ∧ Below w.heap.size w w' := by
  subst hX; subst hY; subst hD; exact l05Cross_any (a, b, c) (a', b', c') hg hh w

theorem l05Inside_is {A : Option Addr} {n c : Nat} {hs : List Hp} {x y d : Int} {v : Bool} (hv : insV hs x y d = v) (w : World) (hn : n = hs.length) (hA : HsAt w w.heap.size A hs) (hm : n ≤ 1048576) (hok : ∀ h ∈ hs, okH h = true)
    (hb : (-20000000000000 ≤ x ∧ x ≤ 20000000000000) ∧ (-20000000000000 ≤ y ∧ y ≤ 20000000000000) ∧ (0 ≤ d ∧ d ≤ 5000000000)) :
    Calls Try.prog 83 #[.slice A n c, .agg #[.int .i64 x, .int .i64 y, .int .i64 d]] w fun e w' => e = .returned (.bool v) ∧ Below w.heap.size w w' := by
  subst hv; obtain ⟨⟨h1, h2⟩, ⟨h3, h4⟩, h5, h6⟩ := hb; exact l05Inside_any A n c hs x y d w hn hA hm hok h5 h6 h1 h2 h3 h4

theorem l05Differ_is {x y d x' y' d' : Int} {v : Bool} (h : spOk x y d = true) (h' : spOk x' y' d' = true) (hv : (!decide (x * d' = x' * d ∧ y * d' = y' * d)) = v)
    (hb : (-20000000000000 ≤ x ∧ x ≤ 20000000000000) ∧ (-20000000000000 ≤ y ∧ y ≤ 20000000000000) ∧ (0 ≤ d ∧ d ≤ 5000000000)) (hb' : (-20000000000000 ≤ x' ∧ x' ≤ 20000000000000) ∧ (-20000000000000 ≤ y' ∧ y' ≤ 20000000000000) ∧ (0 ≤ d' ∧ d' ≤ 5000000000)) (w : World) :
    Calls Try.prog 84 #[.agg #[.int .i64 x, .int .i64 y, .int .i64 d], .agg #[.int .i64 x', .int .i64 y', .int .i64 d']] w fun e w' => e = .returned (.bool v) ∧ Below w.heap.size w w' := by
  obtain ⟨⟨h1, h2⟩, ⟨h3, h4⟩, h5, h6⟩ := hb
  obtain ⟨⟨g1, g2⟩, ⟨g3, g4⟩, g5, g6⟩ := hb'
  have e : (!same3 (spX x y d) (spY x y d) (spD x y d) (spX x' y' d') (spY x' y' d') (spD x' y' d')) = v := by
    rw [← hv]; congr 1
    rw [Bool.eq_iff_iff, spot_same h h']; simp
  rw [← e]
  exact l05Differ_any h rfl rfl rfl h' rfl rfl rfl w h1 h2 h3 h4 h5 h6 g1 g2 g3 g4 g5 g6

/-- The point that l05IsEdge keeps. -/
def FirstIs (h : Hp) (f : Option Hp) (x y d : Int) : Prop :=
  match f with
  | none => x = 0 ∧ y = 0 ∧ d = 0
  | some p => x = pX h p ∧ y = pY h p ∧ d = pD h p

set_option maxHeartbeats 1000000 in
set_option maxRecDepth 100000 in
theorem l05IsEdge_any (A : Option Addr) (n c k : Nat) (hs : List Hp) (w : World) (hn : n = hs.length) (hA : HsAt w w.heap.size A hs) (hm : n ≤ 1048576) (hok : ∀ h ∈ hs, okH h = true) (h : Hp) (hk : hs[k]? = some h) :
    Calls Try.prog 66 #[.slice A n c, .int .i64 k] w fun e w' => ∃ v, e = .returned (.bool v) ∧ (v = true ↔ EdgeI hs h) ∧ Below w.heap.size w w' := by
  have hkl : k < hs.length := by
    rcases Nat.lt_or_ge k hs.length with h' | h'
    · exact h'
    · rw [List.getElem?_eq_none h'] at hk; cases hk
  have HKE := Lib.hid hk
  rw [List.getElem?_eq_getElem hkl] at hk
  injection hk with hk
  have hkn : k < n := by omega
  have hh := hok h (by rw [← hk]; exact List.getElem_mem hkl)
  obtain ⟨b, off, rfl, hlb, k0, k1, k2⟩ := hA.at_ hkl
  rw [hk] at k0 k1 k2
  clear hk
  have HA := Lib.hid hA; clear hA
  have HN := Lib.hid hn; clear hn
  have HK := Lib.hid hok; clear hok
  clear hkl
  obtain ⟨x0, x1, x2⟩ := h
  simp only at k0 k1 k2
  have HH := Lib.hid hh; clear hh
  go_enter Try.func66, Try.ntmps66
  go_wp2_with fail
  go_loopw [12] (fun i wr => ∃ (j : Nat) (f : Option Hp) (fx fy fd : Int), j ≤ n ∧ i = .int .i64 j ∧ RowKit.Hid (Seen hs (x0, x1, x2) j f) ∧ RowKit.Hid (FirstIs (x0, x1, x2) f fx fy fd) ∧ wr.cell? ⟨w.heap.size, 0, none⟩ = some (.int .i64 fx) ∧ wr.cell? ⟨w.heap.size, 1, none⟩ = some (.int .i64 fy) ∧ wr.cell? ⟨w.heap.size, 2, none⟩ = some (.int .i64 fd) ∧ wr.frozen? ⟨w.heap.size, 0, none⟩ = false ∧ wr.frozen? ⟨w.heap.size, 1, none⟩ = false ∧ wr.frozen? ⟨w.heap.size, 2, none⟩ = false ∧ w.heap.size + 1 ≤ wr.heap.size ∧ Below w.heap.size w wr) (fun i _ => n - (intOf i).toNat)
  case atStart => exact ⟨0, none, 0, 0, 0, Nat.zero_le _, rfl, seen_zero _ _, ⟨rfl, rfl, rfl⟩, by first | (go_simp; done) | (simp; done), by first | (go_simp; done) | (simp; done), by first | (go_simp; done) | (simp; done), by first | (go_simp; done) | (simp; done), by first | (go_simp; done) | (simp; done), by first | (go_simp; done) | (simp; done), by simp, (by repeat (first | exact Below.refl _ _ | assumption | refine below_drewN ?_ _ | refine Below.drew ?_ | refine Below.alloc ?_ (by first | omega | (simp <;> omega)) _ | refine Below.setCell ?_ (by first | omega | (simp <;> omega)) _))⟩
  case round =>
    obtain ⟨j, f, fx, fy, fd, hj, rfl, HSn, HF, q0, q1, q2, z0, z1, z2, hz, hb⟩ := hrel
    by_cases hlt : j < n
    · have hl1 : j < hs.length := by have := HN.out; omega
      obtain ⟨b_, off_, e_, _, c0, c1, c2⟩ := (HA.out.below hb).at_ hl1
      injection e_ with e_; injection e_ with e1_ e2_; subst e1_ e2_
      have hlb' : b < wr.heap.size := by omega
      have hhj := HK.out _ (List.getElem_mem hl1)
      have hout := seen_out HSn.out hl1
      by_cases hjk : j = k
      · have HS2 := Lib.hid (hout (by have q := HKE.out; rw [← hjk, List.getElem?_eq_getElem hl1] at q; injection q with q; rw [q]; exact pt_self _ _))
        clear hout
        generalize hs[j] = g at *
        obtain ⟨g0, g1, g2⟩ := g
        simp only at c0 c1 c2
        subst hjk
        go_wp2_with fail
        go_roundw
        case rel => exact ⟨j + 1, f, fx, fy, fd, by omega, by go_num, HS2, HF, (by first | (go_keep; done) | (go_simp; done) | (simp; done) | assumption | (rw [World.frozen?_alloc_past _ _ _ (by first | omega | (simp <;> omega))]; assumption) | (rw [World.cell?_alloc_past _ _ _ (by first | omega | (simp <;> omega))]; assumption)), (by first | (go_keep; done) | (go_simp; done) | (simp; done) | assumption | (rw [World.frozen?_alloc_past _ _ _ (by first | omega | (simp <;> omega))]; assumption) | (rw [World.cell?_alloc_past _ _ _ (by first | omega | (simp <;> omega))]; assumption)), (by first | (go_keep; done) | (go_simp; done) | (simp; done) | assumption | (rw [World.frozen?_alloc_past _ _ _ (by first | omega | (simp <;> omega))]; assumption) | (rw [World.cell?_alloc_past _ _ _ (by first | omega | (simp <;> omega))]; assumption)), (by first | (go_keep; done) | (go_simp; done) | (simp; done) | assumption | (rw [World.frozen?_alloc_past _ _ _ (by first | omega | (simp <;> omega))]; assumption) | (rw [World.cell?_alloc_past _ _ _ (by first | omega | (simp <;> omega))]; assumption)), (by first | (go_keep; done) | (go_simp; done) | (simp; done) | assumption | (rw [World.frozen?_alloc_past _ _ _ (by first | omega | (simp <;> omega))]; assumption) | (rw [World.cell?_alloc_past _ _ _ (by first | omega | (simp <;> omega))]; assumption)), (by first | (go_keep; done) | (go_simp; done) | (simp; done) | assumption | (rw [World.frozen?_alloc_past _ _ _ (by first | omega | (simp <;> omega))]; assumption) | (rw [World.cell?_alloc_past _ _ _ (by first | omega | (simp <;> omega))]; assumption)), by simp; omega, (by repeat (first | exact Below.refl _ _ | assumption | refine below_drewN ?_ _ | refine Below.drew ?_ | refine Below.alloc ?_ (by first | omega | (simp <;> omega)) _ | refine Below.setCell ?_ (by first | omega | (simp <;> omega)) _))⟩
        case measure => simp [intOf]; omega
      · skip
        have hpb := pt_bounds HH.out hhj
        cases hv : ptIn hs (x0, x1, x2) hs[j]
        · have HS2 := Lib.hid (hout hv)
          clear hout
          obtain ⟨X, hX⟩ : ∃ X, pX (x0, x1, x2) hs[j] = X := ⟨_, rfl⟩
          obtain ⟨Y, hY⟩ : ∃ Y, pY (x0, x1, x2) hs[j] = Y := ⟨_, rfl⟩
          obtain ⟨D, hD⟩ : ∃ D, pD (x0, x1, x2) hs[j] = D := ⟨_, rfl⟩
          rw [hX, hY, hD] at hpb
          have HPB := Lib.hid hpb
          have HV := Lib.hid (show insV hs X Y D = false by rw [← hX, ← hY, ← hD]; exact hv)
          skip
          clear hpb hv
          have hjk' : ¬ (j : Int) = (k : Int) := by omega
          have l0 := cell_keep hb k0 hlb
          have l1 := cell_keep hb k1 hlb
          have l2 := cell_keep hb k2 hlb
          generalize hs[j] = g at *
          obtain ⟨g0, g1, g2⟩ := g
          simp only at c0 c1 c2
          have HG := Lib.hid hhj; have HX := Lib.hid hX; have HY := Lib.hid hY; have HD := Lib.hid hD
          clear hhj hX hY hD hjk
          go_wp2_with fail
          have hzl : w.heap.size < wr.heap.size := by omega
          have zz0 : (wr.alloc (.cells #[.int .i64 g0, .int .i64 g1, .int .i64 g2] 57)).drew.frozen? ⟨w.heap.size, 0, none⟩ = false := (World.frozen?_alloc_past _ _ _ (by omega)).trans z0
          have zz1 : (wr.alloc (.cells #[.int .i64 g0, .int .i64 g1, .int .i64 g2] 57)).drew.frozen? ⟨w.heap.size, 1, none⟩ = false := (World.frozen?_alloc_past _ _ _ (by omega)).trans z1
          have zz2 : (wr.alloc (.cells #[.int .i64 g0, .int .i64 g1, .int .i64 g2] 57)).drew.frozen? ⟨w.heap.size, 2, none⟩ = false := (World.frozen?_alloc_past _ _ _ (by omega)).trans z2
          have hS0 : Below w.heap.size w (wr.alloc (.cells #[.int .i64 g0, .int .i64 g1, .int .i64 g2] 57)).drew := (hb.alloc (by omega) _).drew
          go_upto_region 6 with fail
          go_cut [8] (fun s8 wx => ∃ bp : Nat, s8 = .pointer (some ⟨bp, 0, none⟩) ∧ Below w.heap.size w wx ∧ w.heap.size + 1 ≤ wx.heap.size ∧ w.heap.size + 1 ≤ bp ∧ bp < wx.heap.size ∧ wx.cell? ⟨bp, 0, none⟩ = some (.int .i64 X) ∧ wx.cell? ⟨bp, 1, none⟩ = some (.int .i64 Y) ∧ wx.cell? ⟨bp, 2, none⟩ = some (.int .i64 D) ∧ wx.cell? ⟨w.heap.size, 0, none⟩ = some (.int .i64 fx) ∧ wx.cell? ⟨w.heap.size, 1, none⟩ = some (.int .i64 fy) ∧ wx.cell? ⟨w.heap.size, 2, none⟩ = some (.int .i64 fd) ∧ wx.cell? ⟨wr.heap.size, 0, none⟩ = some (.int .i64 g0) ∧ wx.cell? ⟨wr.heap.size, 1, none⟩ = some (.int .i64 g1) ∧ wx.cell? ⟨wr.heap.size, 2, none⟩ = some (.int .i64 g2) ∧ wx.cell? ⟨b, (off+k*3), none⟩ = some (.int .i64 x0) ∧ wx.cell? ⟨b, (off+k*3+1), none⟩ = some (.int .i64 x1) ∧ wx.cell? ⟨b, (off+k*3+2), none⟩ = some (.int .i64 x2) ∧ wx.frozen? ⟨w.heap.size, 0, none⟩ = false ∧ wx.frozen? ⟨w.heap.size, 1, none⟩ = false ∧ wx.frozen? ⟨w.heap.size, 2, none⟩ = false ∧ wr.heap.size < wx.heap.size ∧ b < wx.heap.size)
          case first =>
            go_region_held3 (fun w' => (Below w.heap.size w w' ∧ w.heap.size + 1 ≤ w'.heap.size) ∧ w'.cell? ⟨w.heap.size, 0, none⟩ = some (.int .i64 fx) ∧ w'.cell? ⟨w.heap.size, 1, none⟩ = some (.int .i64 fy) ∧ w'.cell? ⟨w.heap.size, 2, none⟩ = some (.int .i64 fd) ∧ w'.cell? ⟨wr.heap.size, 0, none⟩ = some (.int .i64 g0) ∧ w'.cell? ⟨wr.heap.size, 1, none⟩ = some (.int .i64 g1) ∧ w'.cell? ⟨wr.heap.size, 2, none⟩ = some (.int .i64 g2) ∧ w'.cell? ⟨b, (off+k*3), none⟩ = some (.int .i64 x0) ∧ w'.cell? ⟨b, (off+k*3+1), none⟩ = some (.int .i64 x1) ∧ w'.cell? ⟨b, (off+k*3+2), none⟩ = some (.int .i64 x2) ∧ w'.frozen? ⟨w.heap.size, 0, none⟩ = false ∧ w'.frozen? ⟨w.heap.size, 1, none⟩ = false ∧ w'.frozen? ⟨w.heap.size, 2, none⟩ = false ∧ wr.heap.size < w'.heap.size ∧ b < w'.heap.size) (first | (go_split_ands; refine ⟨⟨?_, ?_⟩, ?_, ?_, ?_, ?_, ?_, ?_, ?_, ?_, ?_, ?_, ?_, ?_, ?_, ?_⟩ <;> first | (with_reducible assumption) | (with_reducible show Below _ _ _; (repeat (first | (with_reducible exact Below.refl _ _) | (with_reducible assumption) | (with_reducible refine below_drewN ?_ _) | (with_reducible refine Below.drew ?_) | ((with_reducible refine Below.alloc ?_ ?_ _); rotate_left; (focus first | omega | (simp <;> omega))) | ((with_reducible refine Below.setCell ?_ ?_ _); rotate_left; (focus first | omega | (simp <;> omega))))); done) | omega | (go_keep; done) | (go_simp; done) | (simp <;> omega) | (fail_if_success skip)))
              (first | (go_at_call 82; with_reducible refine (l05Cross_is HH.out HG.out HX.out HY.out HD.out _).mono ?_; rintro e w1 ⟨rfl, hb1⟩; go_split_ands; have cc0 := cell_keep (p := ⟨w.heap.size, 0, none⟩) (v := .int .i64 fx) hb1 (by first | (with_reducible assumption) | (go_keep; done) | (go_simp; done) | (simp; done)) (by first | omega | (simp <;> omega)); have cc1 := cell_keep (p := ⟨w.heap.size, 1, none⟩) (v := .int .i64 fy) hb1 (by first | (with_reducible assumption) | (go_keep; done) | (go_simp; done) | (simp; done)) (by first | omega | (simp <;> omega)); have cc2 := cell_keep (p := ⟨w.heap.size, 2, none⟩) (v := .int .i64 fd) hb1 (by first | (with_reducible assumption) | (go_keep; done) | (go_simp; done) | (simp; done)) (by first | omega | (simp <;> omega)); have cc3 := cell_keep (p := ⟨wr.heap.size, 0, none⟩) (v := .int .i64 g0) hb1 (by first | (with_reducible assumption) | (go_keep; done) | (go_simp; done) | (simp; done)) (by first | omega | (simp <;> omega)); have cc4 := cell_keep (p := ⟨wr.heap.size, 1, none⟩) (v := .int .i64 g1) hb1 (by first | (with_reducible assumption) | (go_keep; done) | (go_simp; done) | (simp; done)) (by first | omega | (simp <;> omega)); have cc5 := cell_keep (p := ⟨wr.heap.size, 2, none⟩) (v := .int .i64 g2) hb1 (by first | (with_reducible assumption) | (go_keep; done) | (go_simp; done) | (simp; done)) (by first | omega | (simp <;> omega)); have cc6 := cell_keep (p := ⟨b, (off+k*3), none⟩) (v := .int .i64 x0) hb1 (by first | (with_reducible assumption) | (go_keep; done) | (go_simp; done) | (simp; done)) (by first | omega | (simp <;> omega)); have cc7 := cell_keep (p := ⟨b, (off+k*3+1), none⟩) (v := .int .i64 x1) hb1 (by first | (with_reducible assumption) | (go_keep; done) | (go_simp; done) | (simp; done)) (by first | omega | (simp <;> omega)); have cc8 := cell_keep (p := ⟨b, (off+k*3+2), none⟩) (v := .int .i64 x2) hb1 (by first | (with_reducible assumption) | (go_keep; done) | (go_simp; done) | (simp; done)) (by first | omega | (simp <;> omega)); have cf0 := frozen_keep (p := ⟨w.heap.size, 0, none⟩) hb1 (by first | (with_reducible assumption) | (go_keep; done) | (go_simp; done) | (simp; done)) (by first | omega | (simp <;> omega)); have cf1 := frozen_keep (p := ⟨w.heap.size, 1, none⟩) hb1 (by first | (with_reducible assumption) | (go_keep; done) | (go_simp; done) | (simp; done)) (by first | omega | (simp <;> omega)); have cf2 := frozen_keep (p := ⟨w.heap.size, 2, none⟩) hb1 (by first | (with_reducible assumption) | (go_keep; done) | (go_simp; done) | (simp; done)) (by first | omega | (simp <;> omega)); have hS1 : Below w.heap.size w w1 := S_below hb1 (by repeat (first | exact Below.refl _ _ | assumption | refine below_drewN ?_ _ | refine Below.drew ?_ | refine Below.alloc ?_ (by first | omega | (simp <;> omega)) _ | refine Below.setCell ?_ (by first | omega | (simp <;> omega)) _)) (by first | omega | (simp <;> omega)); have hz1 : w.heap.size + 1 ≤ w1.heap.size := S_size hb1 (by first | omega | (simp <;> omega)); have hqb0 : w.heap.size < w1.heap.size := S_lt hb1 (by first | omega | (simp <;> omega)); have hqb1 : wr.heap.size < w1.heap.size := S_lt hb1 (by first | omega | (simp <;> omega)); have hqb2 : b < w1.heap.size := S_lt hb1 (by first | omega | (simp <;> omega)); (first | (have hnz := S_lt hb1 hnz; have nb0 := cell_keep hb1 nb0 (by omega); have nb1 := cell_keep hb1 nb1 (by omega); have nb2 := cell_keep hb1 nb2 (by omega); have nf0 := frozen_keep hb1 nf0 (by omega); have nf1 := frozen_keep hb1 nf1 (by omega); have nf2 := frozen_keep hb1 nf2 (by omega)) | (have _tok : Below (World.drew (World.alloc _ (Obj.cells #[.int .i64 0,  .int .i64 0,  .int .i64 0] _ _))).heap.size _ w1 := hb1; go_must (have nb0 := cell_keep (p := ⟨wr.heap.size + 1, 0, none⟩) (v := .int .i64 0) hb1 (cell_new_drew _ _ _ _ (by simp) rfl) (by first | omega | (simp <;> omega))); go_must (have nb1 := cell_keep (p := ⟨wr.heap.size + 1, 1, none⟩) (v :=  .int .i64 0) hb1 (cell_new_drew _ _ _ _ (by simp) rfl) (by first | omega | (simp <;> omega))); go_must (have nb2 := cell_keep (p := ⟨wr.heap.size + 1, 2, none⟩) (v :=  .int .i64 0) hb1 (cell_new_drew _ _ _ _ (by simp) rfl) (by first | omega | (simp <;> omega))); go_must (have nf0 := frozen_keep (p := ⟨wr.heap.size + 1, 0, none⟩) hb1 (frozen_new_drew _ _ _ _ (by simp)) (by first | omega | (simp <;> omega))); go_must (have nf1 := frozen_keep (p := ⟨wr.heap.size + 1, 1, none⟩) hb1 (frozen_new_drew _ _ _ _ (by simp)) (by first | omega | (simp <;> omega))); go_must (have nf2 := frozen_keep (p := ⟨wr.heap.size + 1, 2, none⟩) hb1 (frozen_new_drew _ _ _ _ (by simp)) (by first | omega | (simp <;> omega))); go_must (have hnz : wr.heap.size + 1 < w1.heap.size := S_lt hb1 (by first | omega | (simp <;> omega))); go_must (have hnl : w.heap.size + 1 ≤ wr.heap.size + 1 := by omega); go_must (have hne0 : ¬ wr.heap.size + 1 = w.heap.size := by omega); go_must (have hnf0 : ¬ w.heap.size = wr.heap.size + 1 := by omega); go_must (have hne1 : ¬ wr.heap.size + 1 = wr.heap.size := by omega); go_must (have hnf1 : ¬ wr.heap.size = wr.heap.size + 1 := by omega); go_must (have hne2 : ¬ wr.heap.size + 1 = b := by omega); go_must (have hnf2 : ¬ b = wr.heap.size + 1 := by omega)) | (have nb0 := cell_keep hb1 (cell_new_at _ _ _ 0 (v := .int .i64 0) rfl) (new_lt _ _); have nb1 := cell_keep hb1 (cell_new_at _ _ _ 1 (v :=  .int .i64 0) rfl) (new_lt _ _); have nb2 := cell_keep hb1 (cell_new_at _ _ _ 2 (v :=  .int .i64 0) rfl) (new_lt _ _); have nf0 := frozen_keep hb1 (frozen_new_at _ _ _ 0) (new_lt _ _); have nf1 := frozen_keep hb1 (frozen_new_at _ _ _ 1) (new_lt _ _); have nf2 := frozen_keep hb1 (frozen_new_at _ _ _ 2) (new_lt _ _); have hnz := S_lt hb1 (new_lt _ _)) | skip)))
            all_goals
              go_split_ands
              go_wp2_with fail
              go_meet
              refine ⟨_, rfl, ?_, ?_, ?_, ?_, ?_, ?_, ?_, ?_, ?_, ?_, ?_, ?_, ?_, ?_, ?_, ?_, ?_, ?_, ?_, ?_, ?_⟩ <;> first | (with_reducible assumption) | omega | (simp only [World.size_setCell, World.size_alloc]; omega) | (go_keep; done) | (go_simp; done) | exact set_0 nb0 _ | exact set2_1 nb1 _ _ | exact set3_2 nb2 _ _ _ | (simp <;> omega)
          case rest =>
            obtain ⟨bp, rfl, hcut⟩ := hcut
            go_split_ands
            go_wp2_with fail
            go_at_call 83; with_reducible refine (l05Inside_is HV.out _ HN.out (HA.out.step (by assumption)) hm HK.out HPB.out).mono ?_
            rintro e wd ⟨rfl, hb1⟩
            have cc_wd0 := cell_keep (p := ⟨w.heap.size, 0, none⟩) (v := .int .i64 fx) hb1 (by first | assumption | (go_keep; done) | (go_simp; done) | (simp; done)) (by first | omega | (simp <;> omega))
            have cc_wd1 := cell_keep (p := ⟨w.heap.size, 1, none⟩) (v := .int .i64 fy) hb1 (by first | assumption | (go_keep; done) | (go_simp; done) | (simp; done)) (by first | omega | (simp <;> omega))
            have cc_wd2 := cell_keep (p := ⟨w.heap.size, 2, none⟩) (v := .int .i64 fd) hb1 (by first | assumption | (go_keep; done) | (go_simp; done) | (simp; done)) (by first | omega | (simp <;> omega))
            have cc_wd3 := cell_keep (p := ⟨bp, 0, none⟩) (v := .int .i64 X) hb1 (by first | assumption | (go_keep; done) | (go_simp; done) | (simp; done)) (by first | omega | (simp <;> omega))
            have cc_wd4 := cell_keep (p := ⟨bp, 1, none⟩) (v := .int .i64 Y) hb1 (by first | assumption | (go_keep; done) | (go_simp; done) | (simp; done)) (by first | omega | (simp <;> omega))
            have cc_wd5 := cell_keep (p := ⟨bp, 2, none⟩) (v := .int .i64 D) hb1 (by first | assumption | (go_keep; done) | (go_simp; done) | (simp; done)) (by first | omega | (simp <;> omega))
            have cf_wd0 := frozen_keep (p := ⟨w.heap.size, 0, none⟩) hb1 (by first | assumption | (go_keep; done) | (go_simp; done) | (simp; done)) (by first | omega | (simp <;> omega))
            have cf_wd1 := frozen_keep (p := ⟨w.heap.size, 1, none⟩) hb1 (by first | assumption | (go_keep; done) | (go_simp; done) | (simp; done)) (by first | omega | (simp <;> omega))
            have cf_wd2 := frozen_keep (p := ⟨w.heap.size, 2, none⟩) hb1 (by first | assumption | (go_keep; done) | (go_simp; done) | (simp; done)) (by first | omega | (simp <;> omega))
            have hS1_wd : Below w.heap.size w wd := S_below hb1 (by repeat (first | exact Below.refl _ _ | assumption | refine below_drewN ?_ _ | refine Below.drew ?_ | refine Below.alloc ?_ (by first | omega | (simp <;> omega)) _ | refine Below.setCell ?_ (by first | omega | (simp <;> omega)) _)) (by first | omega | (simp <;> omega))
            have hz1_wd : w.heap.size + 1 ≤ wd.heap.size := S_size hb1 (by first | omega | (simp <;> omega))
            have hqb_wd0 : w.heap.size < wd.heap.size := S_lt hb1 (by first | omega | (simp <;> omega))
            have hqb_wd1 : bp < wd.heap.size := S_lt hb1 (by first | omega | (simp <;> omega))
            clear hb1
            go_wp2_with fail
            go_roundw
            case rel => exact ⟨j + 1, f, fx, fy, fd, by omega, by go_num, HS2, HF, cc_wd0, cc_wd1, cc_wd2, cf_wd0, cf_wd1, cf_wd2, hz1_wd, hS1_wd⟩
            case measure => simp [intOf]; omega
        · clear hout
          cases f with
          | none =>
            have HS2 := Lib.hid (seen_first HSn.out hl1 hv)
            obtain ⟨hf1, hf2, hf3⟩ := HF.out
            subst hf1 hf2 hf3
            obtain ⟨X, hX⟩ : ∃ X, pX (x0, x1, x2) hs[j] = X := ⟨_, rfl⟩
            obtain ⟨Y, hY⟩ : ∃ Y, pY (x0, x1, x2) hs[j] = Y := ⟨_, rfl⟩
            obtain ⟨D, hD⟩ : ∃ D, pD (x0, x1, x2) hs[j] = D := ⟨_, rfl⟩
            rw [hX, hY, hD] at hpb
            have HPB := Lib.hid hpb
            have HV := Lib.hid (show insV hs X Y D = true by rw [← hX, ← hY, ← hD]; exact hv)
            skip
            clear hpb hv
            have hjk' : ¬ (j : Int) = (k : Int) := by omega
            have l0 := cell_keep hb k0 hlb
            have l1 := cell_keep hb k1 hlb
            have l2 := cell_keep hb k2 hlb
            generalize hs[j] = g at *
            obtain ⟨g0, g1, g2⟩ := g
            simp only at c0 c1 c2
            have HG := Lib.hid hhj; have HX := Lib.hid hX; have HY := Lib.hid hY; have HD := Lib.hid hD
            clear hhj hX hY hD hjk
            go_wp2_with fail
            have hzl : w.heap.size < wr.heap.size := by omega
            have zz0 : (wr.alloc (.cells #[.int .i64 g0, .int .i64 g1, .int .i64 g2] 57)).drew.frozen? ⟨w.heap.size, 0, none⟩ = false := (World.frozen?_alloc_past _ _ _ (by omega)).trans z0
            have zz1 : (wr.alloc (.cells #[.int .i64 g0, .int .i64 g1, .int .i64 g2] 57)).drew.frozen? ⟨w.heap.size, 1, none⟩ = false := (World.frozen?_alloc_past _ _ _ (by omega)).trans z1
            have zz2 : (wr.alloc (.cells #[.int .i64 g0, .int .i64 g1, .int .i64 g2] 57)).drew.frozen? ⟨w.heap.size, 2, none⟩ = false := (World.frozen?_alloc_past _ _ _ (by omega)).trans z2
            have hS0 : Below w.heap.size w (wr.alloc (.cells #[.int .i64 g0, .int .i64 g1, .int .i64 g2] 57)).drew := (hb.alloc (by omega) _).drew
            go_upto_region 6 with fail
            go_cut [8] (fun s8 wx => ∃ bp : Nat, s8 = .pointer (some ⟨bp, 0, none⟩) ∧ Below w.heap.size w wx ∧ w.heap.size + 1 ≤ wx.heap.size ∧ w.heap.size + 1 ≤ bp ∧ bp < wx.heap.size ∧ wx.cell? ⟨bp, 0, none⟩ = some (.int .i64 X) ∧ wx.cell? ⟨bp, 1, none⟩ = some (.int .i64 Y) ∧ wx.cell? ⟨bp, 2, none⟩ = some (.int .i64 D) ∧ wx.cell? ⟨w.heap.size, 0, none⟩ = some (.int .i64 0) ∧ wx.cell? ⟨w.heap.size, 1, none⟩ = some (.int .i64 0) ∧ wx.cell? ⟨w.heap.size, 2, none⟩ = some (.int .i64 0) ∧ wx.cell? ⟨wr.heap.size, 0, none⟩ = some (.int .i64 g0) ∧ wx.cell? ⟨wr.heap.size, 1, none⟩ = some (.int .i64 g1) ∧ wx.cell? ⟨wr.heap.size, 2, none⟩ = some (.int .i64 g2) ∧ wx.cell? ⟨b, (off+k*3), none⟩ = some (.int .i64 x0) ∧ wx.cell? ⟨b, (off+k*3+1), none⟩ = some (.int .i64 x1) ∧ wx.cell? ⟨b, (off+k*3+2), none⟩ = some (.int .i64 x2) ∧ wx.frozen? ⟨w.heap.size, 0, none⟩ = false ∧ wx.frozen? ⟨w.heap.size, 1, none⟩ = false ∧ wx.frozen? ⟨w.heap.size, 2, none⟩ = false ∧ wr.heap.size < wx.heap.size ∧ b < wx.heap.size)
            case first =>
              go_region_held3 (fun w' => (Below w.heap.size w w' ∧ w.heap.size + 1 ≤ w'.heap.size) ∧ w'.cell? ⟨w.heap.size, 0, none⟩ = some (.int .i64 0) ∧ w'.cell? ⟨w.heap.size, 1, none⟩ = some (.int .i64 0) ∧ w'.cell? ⟨w.heap.size, 2, none⟩ = some (.int .i64 0) ∧ w'.cell? ⟨wr.heap.size, 0, none⟩ = some (.int .i64 g0) ∧ w'.cell? ⟨wr.heap.size, 1, none⟩ = some (.int .i64 g1) ∧ w'.cell? ⟨wr.heap.size, 2, none⟩ = some (.int .i64 g2) ∧ w'.cell? ⟨b, (off+k*3), none⟩ = some (.int .i64 x0) ∧ w'.cell? ⟨b, (off+k*3+1), none⟩ = some (.int .i64 x1) ∧ w'.cell? ⟨b, (off+k*3+2), none⟩ = some (.int .i64 x2) ∧ w'.frozen? ⟨w.heap.size, 0, none⟩ = false ∧ w'.frozen? ⟨w.heap.size, 1, none⟩ = false ∧ w'.frozen? ⟨w.heap.size, 2, none⟩ = false ∧ wr.heap.size < w'.heap.size ∧ b < w'.heap.size) (first | (go_split_ands; refine ⟨⟨?_, ?_⟩, ?_, ?_, ?_, ?_, ?_, ?_, ?_, ?_, ?_, ?_, ?_, ?_, ?_, ?_⟩ <;> first | (with_reducible assumption) | (with_reducible show Below _ _ _; (repeat (first | (with_reducible exact Below.refl _ _) | (with_reducible assumption) | (with_reducible refine below_drewN ?_ _) | (with_reducible refine Below.drew ?_) | ((with_reducible refine Below.alloc ?_ ?_ _); rotate_left; (focus first | omega | (simp <;> omega))) | ((with_reducible refine Below.setCell ?_ ?_ _); rotate_left; (focus first | omega | (simp <;> omega))))); done) | omega | (go_keep; done) | (go_simp; done) | (simp <;> omega) | (fail_if_success skip)))
                (first | (go_at_call 82; with_reducible refine (l05Cross_is HH.out HG.out HX.out HY.out HD.out _).mono ?_; rintro e w1 ⟨rfl, hb1⟩; go_split_ands; have cc0 := cell_keep (p := ⟨w.heap.size, 0, none⟩) (v := .int .i64 0) hb1 (by first | (with_reducible assumption) | (go_keep; done) | (go_simp; done) | (simp; done)) (by first | omega | (simp <;> omega)); have cc1 := cell_keep (p := ⟨w.heap.size, 1, none⟩) (v := .int .i64 0) hb1 (by first | (with_reducible assumption) | (go_keep; done) | (go_simp; done) | (simp; done)) (by first | omega | (simp <;> omega)); have cc2 := cell_keep (p := ⟨w.heap.size, 2, none⟩) (v := .int .i64 0) hb1 (by first | (with_reducible assumption) | (go_keep; done) | (go_simp; done) | (simp; done)) (by first | omega | (simp <;> omega)); have cc3 := cell_keep (p := ⟨wr.heap.size, 0, none⟩) (v := .int .i64 g0) hb1 (by first | (with_reducible assumption) | (go_keep; done) | (go_simp; done) | (simp; done)) (by first | omega | (simp <;> omega)); have cc4 := cell_keep (p := ⟨wr.heap.size, 1, none⟩) (v := .int .i64 g1) hb1 (by first | (with_reducible assumption) | (go_keep; done) | (go_simp; done) | (simp; done)) (by first | omega | (simp <;> omega)); have cc5 := cell_keep (p := ⟨wr.heap.size, 2, none⟩) (v := .int .i64 g2) hb1 (by first | (with_reducible assumption) | (go_keep; done) | (go_simp; done) | (simp; done)) (by first | omega | (simp <;> omega)); have cc6 := cell_keep (p := ⟨b, (off+k*3), none⟩) (v := .int .i64 x0) hb1 (by first | (with_reducible assumption) | (go_keep; done) | (go_simp; done) | (simp; done)) (by first | omega | (simp <;> omega)); have cc7 := cell_keep (p := ⟨b, (off+k*3+1), none⟩) (v := .int .i64 x1) hb1 (by first | (with_reducible assumption) | (go_keep; done) | (go_simp; done) | (simp; done)) (by first | omega | (simp <;> omega)); have cc8 := cell_keep (p := ⟨b, (off+k*3+2), none⟩) (v := .int .i64 x2) hb1 (by first | (with_reducible assumption) | (go_keep; done) | (go_simp; done) | (simp; done)) (by first | omega | (simp <;> omega)); have cf0 := frozen_keep (p := ⟨w.heap.size, 0, none⟩) hb1 (by first | (with_reducible assumption) | (go_keep; done) | (go_simp; done) | (simp; done)) (by first | omega | (simp <;> omega)); have cf1 := frozen_keep (p := ⟨w.heap.size, 1, none⟩) hb1 (by first | (with_reducible assumption) | (go_keep; done) | (go_simp; done) | (simp; done)) (by first | omega | (simp <;> omega)); have cf2 := frozen_keep (p := ⟨w.heap.size, 2, none⟩) hb1 (by first | (with_reducible assumption) | (go_keep; done) | (go_simp; done) | (simp; done)) (by first | omega | (simp <;> omega)); have hS1 : Below w.heap.size w w1 := S_below hb1 (by repeat (first | exact Below.refl _ _ | assumption | refine below_drewN ?_ _ | refine Below.drew ?_ | refine Below.alloc ?_ (by first | omega | (simp <;> omega)) _ | refine Below.setCell ?_ (by first | omega | (simp <;> omega)) _)) (by first | omega | (simp <;> omega)); have hz1 : w.heap.size + 1 ≤ w1.heap.size := S_size hb1 (by first | omega | (simp <;> omega)); have hqb0 : w.heap.size < w1.heap.size := S_lt hb1 (by first | omega | (simp <;> omega)); have hqb1 : wr.heap.size < w1.heap.size := S_lt hb1 (by first | omega | (simp <;> omega)); have hqb2 : b < w1.heap.size := S_lt hb1 (by first | omega | (simp <;> omega)); (first | (have hnz := S_lt hb1 hnz; have nb0 := cell_keep hb1 nb0 (by omega); have nb1 := cell_keep hb1 nb1 (by omega); have nb2 := cell_keep hb1 nb2 (by omega); have nf0 := frozen_keep hb1 nf0 (by omega); have nf1 := frozen_keep hb1 nf1 (by omega); have nf2 := frozen_keep hb1 nf2 (by omega)) | (have _tok : Below (World.drew (World.alloc _ (Obj.cells #[.int .i64 0,  .int .i64 0,  .int .i64 0] _ _))).heap.size _ w1 := hb1; go_must (have nb0 := cell_keep (p := ⟨wr.heap.size + 1, 0, none⟩) (v := .int .i64 0) hb1 (cell_new_drew _ _ _ _ (by simp) rfl) (by first | omega | (simp <;> omega))); go_must (have nb1 := cell_keep (p := ⟨wr.heap.size + 1, 1, none⟩) (v :=  .int .i64 0) hb1 (cell_new_drew _ _ _ _ (by simp) rfl) (by first | omega | (simp <;> omega))); go_must (have nb2 := cell_keep (p := ⟨wr.heap.size + 1, 2, none⟩) (v :=  .int .i64 0) hb1 (cell_new_drew _ _ _ _ (by simp) rfl) (by first | omega | (simp <;> omega))); go_must (have nf0 := frozen_keep (p := ⟨wr.heap.size + 1, 0, none⟩) hb1 (frozen_new_drew _ _ _ _ (by simp)) (by first | omega | (simp <;> omega))); go_must (have nf1 := frozen_keep (p := ⟨wr.heap.size + 1, 1, none⟩) hb1 (frozen_new_drew _ _ _ _ (by simp)) (by first | omega | (simp <;> omega))); go_must (have nf2 := frozen_keep (p := ⟨wr.heap.size + 1, 2, none⟩) hb1 (frozen_new_drew _ _ _ _ (by simp)) (by first | omega | (simp <;> omega))); go_must (have hnz : wr.heap.size + 1 < w1.heap.size := S_lt hb1 (by first | omega | (simp <;> omega))); go_must (have hnl : w.heap.size + 1 ≤ wr.heap.size + 1 := by omega); go_must (have hne0 : ¬ wr.heap.size + 1 = w.heap.size := by omega); go_must (have hnf0 : ¬ w.heap.size = wr.heap.size + 1 := by omega); go_must (have hne1 : ¬ wr.heap.size + 1 = wr.heap.size := by omega); go_must (have hnf1 : ¬ wr.heap.size = wr.heap.size + 1 := by omega); go_must (have hne2 : ¬ wr.heap.size + 1 = b := by omega); go_must (have hnf2 : ¬ b = wr.heap.size + 1 := by omega)) | (have nb0 := cell_keep hb1 (cell_new_at _ _ _ 0 (v := .int .i64 0) rfl) (new_lt _ _); have nb1 := cell_keep hb1 (cell_new_at _ _ _ 1 (v :=  .int .i64 0) rfl) (new_lt _ _); have nb2 := cell_keep hb1 (cell_new_at _ _ _ 2 (v :=  .int .i64 0) rfl) (new_lt _ _); have nf0 := frozen_keep hb1 (frozen_new_at _ _ _ 0) (new_lt _ _); have nf1 := frozen_keep hb1 (frozen_new_at _ _ _ 1) (new_lt _ _); have nf2 := frozen_keep hb1 (frozen_new_at _ _ _ 2) (new_lt _ _); have hnz := S_lt hb1 (new_lt _ _)) | skip)))
              all_goals
                go_split_ands
                go_wp2_with fail
                go_meet
                refine ⟨_, rfl, ?_, ?_, ?_, ?_, ?_, ?_, ?_, ?_, ?_, ?_, ?_, ?_, ?_, ?_, ?_, ?_, ?_, ?_, ?_, ?_, ?_⟩ <;> first | (with_reducible assumption) | omega | (simp only [World.size_setCell, World.size_alloc]; omega) | (go_keep; done) | (go_simp; done) | exact set_0 nb0 _ | exact set2_1 nb1 _ _ | exact set3_2 nb2 _ _ _ | (simp <;> omega)
            case rest =>
              obtain ⟨bp, rfl, hcut⟩ := hcut
              go_split_ands
              go_wp2_with fail
              go_at_call 83; with_reducible refine (l05Inside_is HV.out _ HN.out (HA.out.step (by assumption)) hm HK.out HPB.out).mono ?_
              rintro e wd ⟨rfl, hb1⟩
              have cc_wd0 := cell_keep (p := ⟨w.heap.size, 0, none⟩) (v := .int .i64 0) hb1 (by first | assumption | (go_keep; done) | (go_simp; done) | (simp; done)) (by first | omega | (simp <;> omega))
              have cc_wd1 := cell_keep (p := ⟨w.heap.size, 1, none⟩) (v := .int .i64 0) hb1 (by first | assumption | (go_keep; done) | (go_simp; done) | (simp; done)) (by first | omega | (simp <;> omega))
              have cc_wd2 := cell_keep (p := ⟨w.heap.size, 2, none⟩) (v := .int .i64 0) hb1 (by first | assumption | (go_keep; done) | (go_simp; done) | (simp; done)) (by first | omega | (simp <;> omega))
              have cc_wd3 := cell_keep (p := ⟨bp, 0, none⟩) (v := .int .i64 X) hb1 (by first | assumption | (go_keep; done) | (go_simp; done) | (simp; done)) (by first | omega | (simp <;> omega))
              have cc_wd4 := cell_keep (p := ⟨bp, 1, none⟩) (v := .int .i64 Y) hb1 (by first | assumption | (go_keep; done) | (go_simp; done) | (simp; done)) (by first | omega | (simp <;> omega))
              have cc_wd5 := cell_keep (p := ⟨bp, 2, none⟩) (v := .int .i64 D) hb1 (by first | assumption | (go_keep; done) | (go_simp; done) | (simp; done)) (by first | omega | (simp <;> omega))
              have cf_wd0 := frozen_keep (p := ⟨w.heap.size, 0, none⟩) hb1 (by first | assumption | (go_keep; done) | (go_simp; done) | (simp; done)) (by first | omega | (simp <;> omega))
              have cf_wd1 := frozen_keep (p := ⟨w.heap.size, 1, none⟩) hb1 (by first | assumption | (go_keep; done) | (go_simp; done) | (simp; done)) (by first | omega | (simp <;> omega))
              have cf_wd2 := frozen_keep (p := ⟨w.heap.size, 2, none⟩) hb1 (by first | assumption | (go_keep; done) | (go_simp; done) | (simp; done)) (by first | omega | (simp <;> omega))
              have hS1_wd : Below w.heap.size w wd := S_below hb1 (by repeat (first | exact Below.refl _ _ | assumption | refine below_drewN ?_ _ | refine Below.drew ?_ | refine Below.alloc ?_ (by first | omega | (simp <;> omega)) _ | refine Below.setCell ?_ (by first | omega | (simp <;> omega)) _)) (by first | omega | (simp <;> omega))
              have hz1_wd : w.heap.size + 1 ≤ wd.heap.size := S_size hb1 (by first | omega | (simp <;> omega))
              have hqb_wd0 : w.heap.size < wd.heap.size := S_lt hb1 (by first | omega | (simp <;> omega))
              have hqb_wd1 : bp < wd.heap.size := S_lt hb1 (by first | omega | (simp <;> omega))
              clear hb1
              go_wp2_with fail
              go_roundw
              case rel =>
                refine ⟨j + 1, some (g0, g1, g2), X, Y, D, by omega, by go_num, HS2, ⟨HX.out.symm, HY.out.symm, HD.out.symm⟩, (by first | (go_keep; done) | (go_simp; done) | (simp; done) | assumption | (rw [World.frozen?_alloc_past _ _ _ (by first | omega | (simp <;> omega))]; assumption) | (rw [World.cell?_alloc_past _ _ _ (by first | omega | (simp <;> omega))]; assumption)), (by first | (go_keep; done) | (go_simp; done) | (simp; done) | assumption | (rw [World.frozen?_alloc_past _ _ _ (by first | omega | (simp <;> omega))]; assumption) | (rw [World.cell?_alloc_past _ _ _ (by first | omega | (simp <;> omega))]; assumption)), (by first | (go_keep; done) | (go_simp; done) | (simp; done) | assumption | (rw [World.frozen?_alloc_past _ _ _ (by first | omega | (simp <;> omega))]; assumption) | (rw [World.cell?_alloc_past _ _ _ (by first | omega | (simp <;> omega))]; assumption)), (by first | (go_keep; done) | (go_simp; done) | (simp; done) | assumption | (rw [World.frozen?_alloc_past _ _ _ (by first | omega | (simp <;> omega))]; assumption) | (rw [World.cell?_alloc_past _ _ _ (by first | omega | (simp <;> omega))]; assumption)), (by first | (go_keep; done) | (go_simp; done) | (simp; done) | assumption | (rw [World.frozen?_alloc_past _ _ _ (by first | omega | (simp <;> omega))]; assumption) | (rw [World.cell?_alloc_past _ _ _ (by first | omega | (simp <;> omega))]; assumption)), (by first | (go_keep; done) | (go_simp; done) | (simp; done) | assumption | (rw [World.frozen?_alloc_past _ _ _ (by first | omega | (simp <;> omega))]; assumption) | (rw [World.cell?_alloc_past _ _ _ (by first | omega | (simp <;> omega))]; assumption)), by simp; omega, (by repeat (first | exact Below.refl _ _ | assumption | refine below_drewN ?_ _ | refine Below.drew ?_ | refine Below.alloc ?_ (by first | omega | (simp <;> omega)) _ | refine Below.setCell ?_ (by first | omega | (simp <;> omega)) _))⟩
              case measure => simp [intOf]; omega
          | some p =>
            obtain ⟨hf1, hf2, hf3⟩ := HF.out
            have hop := HK.out p (List.mem_of_mem_take HSn.out.1)
            obtain ⟨hd1, hsp⟩ := pt_spot HH.out hop HSn.out.2.1
            obtain ⟨_, hsj⟩ := pt_spot HH.out hhj hv
            have hb2 := pt_bounds HH.out hop
            rw [← hf1, ← hf2, ← hf3] at hsp hb2
            rw [← hf3] at hd1
            have hfd : (fd == 0) = false := by simp; omega
            have HSP := Lib.hid hsp
            have HPB2 := Lib.hid hb2
            clear hop hsp hb2
            by_cases hsm : samePt (x0, x1, x2) p hs[j]
            · have HS2 := Lib.hid (seen_same HSn.out hl1 hsm)
              unfold samePt at hsm
              rw [← hf1, ← hf2, ← hf3] at hsm
              clear hf1 hf2 hf3
              obtain ⟨X, hX⟩ : ∃ X, pX (x0, x1, x2) hs[j] = X := ⟨_, rfl⟩
              obtain ⟨Y, hY⟩ : ∃ Y, pY (x0, x1, x2) hs[j] = Y := ⟨_, rfl⟩
              obtain ⟨D, hD⟩ : ∃ D, pD (x0, x1, x2) hs[j] = D := ⟨_, rfl⟩
              rw [hX, hY, hD] at hpb
              have HPB := Lib.hid hpb
              have HV := Lib.hid (show insV hs X Y D = true by rw [← hX, ← hY, ← hD]; exact hv)
              rw [hX, hY, hD] at hsm; rw [hX, hY, hD] at hsj; have HSJ := Lib.hid hsj; have HSM := Lib.hid (show (!decide (fx * D = X * fd ∧ fy * D = Y * fd)) = false by rw [decide_eq_true hsm]; rfl); clear hsj hsm
              clear hpb hv
              have hjk' : ¬ (j : Int) = (k : Int) := by omega
              have l0 := cell_keep hb k0 hlb
              have l1 := cell_keep hb k1 hlb
              have l2 := cell_keep hb k2 hlb
              generalize hs[j] = g at *
              obtain ⟨g0, g1, g2⟩ := g
              simp only at c0 c1 c2
              have HG := Lib.hid hhj; have HX := Lib.hid hX; have HY := Lib.hid hY; have HD := Lib.hid hD
              clear hhj hX hY hD hjk
              go_wp2_with fail
              have hzl : w.heap.size < wr.heap.size := by omega
              have zz0 : (wr.alloc (.cells #[.int .i64 g0, .int .i64 g1, .int .i64 g2] 57)).drew.frozen? ⟨w.heap.size, 0, none⟩ = false := (World.frozen?_alloc_past _ _ _ (by omega)).trans z0
              have zz1 : (wr.alloc (.cells #[.int .i64 g0, .int .i64 g1, .int .i64 g2] 57)).drew.frozen? ⟨w.heap.size, 1, none⟩ = false := (World.frozen?_alloc_past _ _ _ (by omega)).trans z1
              have zz2 : (wr.alloc (.cells #[.int .i64 g0, .int .i64 g1, .int .i64 g2] 57)).drew.frozen? ⟨w.heap.size, 2, none⟩ = false := (World.frozen?_alloc_past _ _ _ (by omega)).trans z2
              have hS0 : Below w.heap.size w (wr.alloc (.cells #[.int .i64 g0, .int .i64 g1, .int .i64 g2] 57)).drew := (hb.alloc (by omega) _).drew
              go_upto_region 6 with fail
              go_cut [8] (fun s8 wx => ∃ bp : Nat, s8 = .pointer (some ⟨bp, 0, none⟩) ∧ Below w.heap.size w wx ∧ w.heap.size + 1 ≤ wx.heap.size ∧ w.heap.size + 1 ≤ bp ∧ bp < wx.heap.size ∧ wx.cell? ⟨bp, 0, none⟩ = some (.int .i64 X) ∧ wx.cell? ⟨bp, 1, none⟩ = some (.int .i64 Y) ∧ wx.cell? ⟨bp, 2, none⟩ = some (.int .i64 D) ∧ wx.cell? ⟨w.heap.size, 0, none⟩ = some (.int .i64 fx) ∧ wx.cell? ⟨w.heap.size, 1, none⟩ = some (.int .i64 fy) ∧ wx.cell? ⟨w.heap.size, 2, none⟩ = some (.int .i64 fd) ∧ wx.cell? ⟨wr.heap.size, 0, none⟩ = some (.int .i64 g0) ∧ wx.cell? ⟨wr.heap.size, 1, none⟩ = some (.int .i64 g1) ∧ wx.cell? ⟨wr.heap.size, 2, none⟩ = some (.int .i64 g2) ∧ wx.cell? ⟨b, (off+k*3), none⟩ = some (.int .i64 x0) ∧ wx.cell? ⟨b, (off+k*3+1), none⟩ = some (.int .i64 x1) ∧ wx.cell? ⟨b, (off+k*3+2), none⟩ = some (.int .i64 x2) ∧ wx.frozen? ⟨w.heap.size, 0, none⟩ = false ∧ wx.frozen? ⟨w.heap.size, 1, none⟩ = false ∧ wx.frozen? ⟨w.heap.size, 2, none⟩ = false ∧ wr.heap.size < wx.heap.size ∧ b < wx.heap.size)
              case first =>
                go_region_held3 (fun w' => (Below w.heap.size w w' ∧ w.heap.size + 1 ≤ w'.heap.size) ∧ w'.cell? ⟨w.heap.size, 0, none⟩ = some (.int .i64 fx) ∧ w'.cell? ⟨w.heap.size, 1, none⟩ = some (.int .i64 fy) ∧ w'.cell? ⟨w.heap.size, 2, none⟩ = some (.int .i64 fd) ∧ w'.cell? ⟨wr.heap.size, 0, none⟩ = some (.int .i64 g0) ∧ w'.cell? ⟨wr.heap.size, 1, none⟩ = some (.int .i64 g1) ∧ w'.cell? ⟨wr.heap.size, 2, none⟩ = some (.int .i64 g2) ∧ w'.cell? ⟨b, (off+k*3), none⟩ = some (.int .i64 x0) ∧ w'.cell? ⟨b, (off+k*3+1), none⟩ = some (.int .i64 x1) ∧ w'.cell? ⟨b, (off+k*3+2), none⟩ = some (.int .i64 x2) ∧ w'.frozen? ⟨w.heap.size, 0, none⟩ = false ∧ w'.frozen? ⟨w.heap.size, 1, none⟩ = false ∧ w'.frozen? ⟨w.heap.size, 2, none⟩ = false ∧ wr.heap.size < w'.heap.size ∧ b < w'.heap.size) (first | (go_split_ands; refine ⟨⟨?_, ?_⟩, ?_, ?_, ?_, ?_, ?_, ?_, ?_, ?_, ?_, ?_, ?_, ?_, ?_, ?_⟩ <;> first | (with_reducible assumption) | (with_reducible show Below _ _ _; (repeat (first | (with_reducible exact Below.refl _ _) | (with_reducible assumption) | (with_reducible refine below_drewN ?_ _) | (with_reducible refine Below.drew ?_) | ((with_reducible refine Below.alloc ?_ ?_ _); rotate_left; (focus first | omega | (simp <;> omega))) | ((with_reducible refine Below.setCell ?_ ?_ _); rotate_left; (focus first | omega | (simp <;> omega))))); done) | omega | (go_keep; done) | (go_simp; done) | (simp <;> omega) | (fail_if_success skip)))
                  (first | (go_at_call 82; with_reducible refine (l05Cross_is HH.out HG.out HX.out HY.out HD.out _).mono ?_; rintro e w1 ⟨rfl, hb1⟩; go_split_ands; have cc0 := cell_keep (p := ⟨w.heap.size, 0, none⟩) (v := .int .i64 fx) hb1 (by first | (with_reducible assumption) | (go_keep; done) | (go_simp; done) | (simp; done)) (by first | omega | (simp <;> omega)); have cc1 := cell_keep (p := ⟨w.heap.size, 1, none⟩) (v := .int .i64 fy) hb1 (by first | (with_reducible assumption) | (go_keep; done) | (go_simp; done) | (simp; done)) (by first | omega | (simp <;> omega)); have cc2 := cell_keep (p := ⟨w.heap.size, 2, none⟩) (v := .int .i64 fd) hb1 (by first | (with_reducible assumption) | (go_keep; done) | (go_simp; done) | (simp; done)) (by first | omega | (simp <;> omega)); have cc3 := cell_keep (p := ⟨wr.heap.size, 0, none⟩) (v := .int .i64 g0) hb1 (by first | (with_reducible assumption) | (go_keep; done) | (go_simp; done) | (simp; done)) (by first | omega | (simp <;> omega)); have cc4 := cell_keep (p := ⟨wr.heap.size, 1, none⟩) (v := .int .i64 g1) hb1 (by first | (with_reducible assumption) | (go_keep; done) | (go_simp; done) | (simp; done)) (by first | omega | (simp <;> omega)); have cc5 := cell_keep (p := ⟨wr.heap.size, 2, none⟩) (v := .int .i64 g2) hb1 (by first | (with_reducible assumption) | (go_keep; done) | (go_simp; done) | (simp; done)) (by first | omega | (simp <;> omega)); have cc6 := cell_keep (p := ⟨b, (off+k*3), none⟩) (v := .int .i64 x0) hb1 (by first | (with_reducible assumption) | (go_keep; done) | (go_simp; done) | (simp; done)) (by first | omega | (simp <;> omega)); have cc7 := cell_keep (p := ⟨b, (off+k*3+1), none⟩) (v := .int .i64 x1) hb1 (by first | (with_reducible assumption) | (go_keep; done) | (go_simp; done) | (simp; done)) (by first | omega | (simp <;> omega)); have cc8 := cell_keep (p := ⟨b, (off+k*3+2), none⟩) (v := .int .i64 x2) hb1 (by first | (with_reducible assumption) | (go_keep; done) | (go_simp; done) | (simp; done)) (by first | omega | (simp <;> omega)); have cf0 := frozen_keep (p := ⟨w.heap.size, 0, none⟩) hb1 (by first | (with_reducible assumption) | (go_keep; done) | (go_simp; done) | (simp; done)) (by first | omega | (simp <;> omega)); have cf1 := frozen_keep (p := ⟨w.heap.size, 1, none⟩) hb1 (by first | (with_reducible assumption) | (go_keep; done) | (go_simp; done) | (simp; done)) (by first | omega | (simp <;> omega)); have cf2 := frozen_keep (p := ⟨w.heap.size, 2, none⟩) hb1 (by first | (with_reducible assumption) | (go_keep; done) | (go_simp; done) | (simp; done)) (by first | omega | (simp <;> omega)); have hS1 : Below w.heap.size w w1 := S_below hb1 (by repeat (first | exact Below.refl _ _ | assumption | refine below_drewN ?_ _ | refine Below.drew ?_ | refine Below.alloc ?_ (by first | omega | (simp <;> omega)) _ | refine Below.setCell ?_ (by first | omega | (simp <;> omega)) _)) (by first | omega | (simp <;> omega)); have hz1 : w.heap.size + 1 ≤ w1.heap.size := S_size hb1 (by first | omega | (simp <;> omega)); have hqb0 : w.heap.size < w1.heap.size := S_lt hb1 (by first | omega | (simp <;> omega)); have hqb1 : wr.heap.size < w1.heap.size := S_lt hb1 (by first | omega | (simp <;> omega)); have hqb2 : b < w1.heap.size := S_lt hb1 (by first | omega | (simp <;> omega)); (first | (have hnz := S_lt hb1 hnz; have nb0 := cell_keep hb1 nb0 (by omega); have nb1 := cell_keep hb1 nb1 (by omega); have nb2 := cell_keep hb1 nb2 (by omega); have nf0 := frozen_keep hb1 nf0 (by omega); have nf1 := frozen_keep hb1 nf1 (by omega); have nf2 := frozen_keep hb1 nf2 (by omega)) | (have _tok : Below (World.drew (World.alloc _ (Obj.cells #[.int .i64 0,  .int .i64 0,  .int .i64 0] _ _))).heap.size _ w1 := hb1; go_must (have nb0 := cell_keep (p := ⟨wr.heap.size + 1, 0, none⟩) (v := .int .i64 0) hb1 (cell_new_drew _ _ _ _ (by simp) rfl) (by first | omega | (simp <;> omega))); go_must (have nb1 := cell_keep (p := ⟨wr.heap.size + 1, 1, none⟩) (v :=  .int .i64 0) hb1 (cell_new_drew _ _ _ _ (by simp) rfl) (by first | omega | (simp <;> omega))); go_must (have nb2 := cell_keep (p := ⟨wr.heap.size + 1, 2, none⟩) (v :=  .int .i64 0) hb1 (cell_new_drew _ _ _ _ (by simp) rfl) (by first | omega | (simp <;> omega))); go_must (have nf0 := frozen_keep (p := ⟨wr.heap.size + 1, 0, none⟩) hb1 (frozen_new_drew _ _ _ _ (by simp)) (by first | omega | (simp <;> omega))); go_must (have nf1 := frozen_keep (p := ⟨wr.heap.size + 1, 1, none⟩) hb1 (frozen_new_drew _ _ _ _ (by simp)) (by first | omega | (simp <;> omega))); go_must (have nf2 := frozen_keep (p := ⟨wr.heap.size + 1, 2, none⟩) hb1 (frozen_new_drew _ _ _ _ (by simp)) (by first | omega | (simp <;> omega))); go_must (have hnz : wr.heap.size + 1 < w1.heap.size := S_lt hb1 (by first | omega | (simp <;> omega))); go_must (have hnl : w.heap.size + 1 ≤ wr.heap.size + 1 := by omega); go_must (have hne0 : ¬ wr.heap.size + 1 = w.heap.size := by omega); go_must (have hnf0 : ¬ w.heap.size = wr.heap.size + 1 := by omega); go_must (have hne1 : ¬ wr.heap.size + 1 = wr.heap.size := by omega); go_must (have hnf1 : ¬ wr.heap.size = wr.heap.size + 1 := by omega); go_must (have hne2 : ¬ wr.heap.size + 1 = b := by omega); go_must (have hnf2 : ¬ b = wr.heap.size + 1 := by omega)) | (have nb0 := cell_keep hb1 (cell_new_at _ _ _ 0 (v := .int .i64 0) rfl) (new_lt _ _); have nb1 := cell_keep hb1 (cell_new_at _ _ _ 1 (v :=  .int .i64 0) rfl) (new_lt _ _); have nb2 := cell_keep hb1 (cell_new_at _ _ _ 2 (v :=  .int .i64 0) rfl) (new_lt _ _); have nf0 := frozen_keep hb1 (frozen_new_at _ _ _ 0) (new_lt _ _); have nf1 := frozen_keep hb1 (frozen_new_at _ _ _ 1) (new_lt _ _); have nf2 := frozen_keep hb1 (frozen_new_at _ _ _ 2) (new_lt _ _); have hnz := S_lt hb1 (new_lt _ _)) | skip)))
                all_goals
                  go_split_ands
                  go_wp2_with fail
                  go_meet
                  refine ⟨_, rfl, ?_, ?_, ?_, ?_, ?_, ?_, ?_, ?_, ?_, ?_, ?_, ?_, ?_, ?_, ?_, ?_, ?_, ?_, ?_, ?_, ?_⟩ <;> first | (with_reducible assumption) | omega | (simp only [World.size_setCell, World.size_alloc]; omega) | (go_keep; done) | (go_simp; done) | exact set_0 nb0 _ | exact set2_1 nb1 _ _ | exact set3_2 nb2 _ _ _ | (simp <;> omega)
              case rest =>
                obtain ⟨bp, rfl, hcut⟩ := hcut
                go_split_ands
                go_wp2_with fail
                go_at_call 83; with_reducible refine (l05Inside_is HV.out _ HN.out (HA.out.step (by assumption)) hm HK.out HPB.out).mono ?_
                rintro e wd ⟨rfl, hb1⟩
                have cc_wd0 := cell_keep (p := ⟨w.heap.size, 0, none⟩) (v := .int .i64 fx) hb1 (by first | assumption | (go_keep; done) | (go_simp; done) | (simp; done)) (by first | omega | (simp <;> omega))
                have cc_wd1 := cell_keep (p := ⟨w.heap.size, 1, none⟩) (v := .int .i64 fy) hb1 (by first | assumption | (go_keep; done) | (go_simp; done) | (simp; done)) (by first | omega | (simp <;> omega))
                have cc_wd2 := cell_keep (p := ⟨w.heap.size, 2, none⟩) (v := .int .i64 fd) hb1 (by first | assumption | (go_keep; done) | (go_simp; done) | (simp; done)) (by first | omega | (simp <;> omega))
                have cc_wd3 := cell_keep (p := ⟨bp, 0, none⟩) (v := .int .i64 X) hb1 (by first | assumption | (go_keep; done) | (go_simp; done) | (simp; done)) (by first | omega | (simp <;> omega))
                have cc_wd4 := cell_keep (p := ⟨bp, 1, none⟩) (v := .int .i64 Y) hb1 (by first | assumption | (go_keep; done) | (go_simp; done) | (simp; done)) (by first | omega | (simp <;> omega))
                have cc_wd5 := cell_keep (p := ⟨bp, 2, none⟩) (v := .int .i64 D) hb1 (by first | assumption | (go_keep; done) | (go_simp; done) | (simp; done)) (by first | omega | (simp <;> omega))
                have cf_wd0 := frozen_keep (p := ⟨w.heap.size, 0, none⟩) hb1 (by first | assumption | (go_keep; done) | (go_simp; done) | (simp; done)) (by first | omega | (simp <;> omega))
                have cf_wd1 := frozen_keep (p := ⟨w.heap.size, 1, none⟩) hb1 (by first | assumption | (go_keep; done) | (go_simp; done) | (simp; done)) (by first | omega | (simp <;> omega))
                have cf_wd2 := frozen_keep (p := ⟨w.heap.size, 2, none⟩) hb1 (by first | assumption | (go_keep; done) | (go_simp; done) | (simp; done)) (by first | omega | (simp <;> omega))
                have hS1_wd : Below w.heap.size w wd := S_below hb1 (by repeat (first | exact Below.refl _ _ | assumption | refine below_drewN ?_ _ | refine Below.drew ?_ | refine Below.alloc ?_ (by first | omega | (simp <;> omega)) _ | refine Below.setCell ?_ (by first | omega | (simp <;> omega)) _)) (by first | omega | (simp <;> omega))
                have hz1_wd : w.heap.size + 1 ≤ wd.heap.size := S_size hb1 (by first | omega | (simp <;> omega))
                have hqb_wd0 : w.heap.size < wd.heap.size := S_lt hb1 (by first | omega | (simp <;> omega))
                have hqb_wd1 : bp < wd.heap.size := S_lt hb1 (by first | omega | (simp <;> omega))
                clear hb1
                go_wp2_with fail
                go_at_call 84; with_reducible refine (l05Differ_is HSP.out HSJ.out HSM.out HPB2.out HPB.out _).mono ?_
                rintro e we ⟨rfl, hb1⟩
                have cc_we0 := cell_keep (p := ⟨w.heap.size, 0, none⟩) (v := .int .i64 fx) hb1 (by first | assumption | (go_keep; done) | (go_simp; done) | (simp; done)) (by first | omega | (simp <;> omega))
                have cc_we1 := cell_keep (p := ⟨w.heap.size, 1, none⟩) (v := .int .i64 fy) hb1 (by first | assumption | (go_keep; done) | (go_simp; done) | (simp; done)) (by first | omega | (simp <;> omega))
                have cc_we2 := cell_keep (p := ⟨w.heap.size, 2, none⟩) (v := .int .i64 fd) hb1 (by first | assumption | (go_keep; done) | (go_simp; done) | (simp; done)) (by first | omega | (simp <;> omega))
                have cc_we3 := cell_keep (p := ⟨bp, 0, none⟩) (v := .int .i64 X) hb1 (by first | assumption | (go_keep; done) | (go_simp; done) | (simp; done)) (by first | omega | (simp <;> omega))
                have cc_we4 := cell_keep (p := ⟨bp, 1, none⟩) (v := .int .i64 Y) hb1 (by first | assumption | (go_keep; done) | (go_simp; done) | (simp; done)) (by first | omega | (simp <;> omega))
                have cc_we5 := cell_keep (p := ⟨bp, 2, none⟩) (v := .int .i64 D) hb1 (by first | assumption | (go_keep; done) | (go_simp; done) | (simp; done)) (by first | omega | (simp <;> omega))
                have cf_we0 := frozen_keep (p := ⟨w.heap.size, 0, none⟩) hb1 (by first | assumption | (go_keep; done) | (go_simp; done) | (simp; done)) (by first | omega | (simp <;> omega))
                have cf_we1 := frozen_keep (p := ⟨w.heap.size, 1, none⟩) hb1 (by first | assumption | (go_keep; done) | (go_simp; done) | (simp; done)) (by first | omega | (simp <;> omega))
                have cf_we2 := frozen_keep (p := ⟨w.heap.size, 2, none⟩) hb1 (by first | assumption | (go_keep; done) | (go_simp; done) | (simp; done)) (by first | omega | (simp <;> omega))
                have hS1_we : Below w.heap.size w we := S_below hb1 (by repeat (first | exact Below.refl _ _ | assumption | refine below_drewN ?_ _ | refine Below.drew ?_ | refine Below.alloc ?_ (by first | omega | (simp <;> omega)) _ | refine Below.setCell ?_ (by first | omega | (simp <;> omega)) _)) (by first | omega | (simp <;> omega))
                have hz1_we : w.heap.size + 1 ≤ we.heap.size := S_size hb1 (by first | omega | (simp <;> omega))
                have hqb_we0 : w.heap.size < we.heap.size := S_lt hb1 (by first | omega | (simp <;> omega))
                have hqb_we1 : bp < we.heap.size := S_lt hb1 (by first | omega | (simp <;> omega))
                clear hb1
                go_wp2_with fail
                go_roundw
                case rel => exact ⟨j + 1, some p, fx, fy, fd, by omega, by go_num, HS2, HF, cc_we0, cc_we1, cc_we2, cf_we0, cf_we1, cf_we2, hz1_we, hS1_we⟩
                case measure => simp [intOf]; omega
            · have HE := Lib.hid (seen_diff HSn.out hl1 hv hsm)
              unfold samePt at hsm
              rw [← hf1, ← hf2, ← hf3] at hsm
              clear hf1 hf2 hf3
              obtain ⟨X, hX⟩ : ∃ X, pX (x0, x1, x2) hs[j] = X := ⟨_, rfl⟩
              obtain ⟨Y, hY⟩ : ∃ Y, pY (x0, x1, x2) hs[j] = Y := ⟨_, rfl⟩
              obtain ⟨D, hD⟩ : ∃ D, pD (x0, x1, x2) hs[j] = D := ⟨_, rfl⟩
              rw [hX, hY, hD] at hpb
              have HPB := Lib.hid hpb
              have HV := Lib.hid (show insV hs X Y D = true by rw [← hX, ← hY, ← hD]; exact hv)
              rw [hX, hY, hD] at hsm; rw [hX, hY, hD] at hsj; have HSJ := Lib.hid hsj; have HSM := Lib.hid (show (!decide (fx * D = X * fd ∧ fy * D = Y * fd)) = true by rw [decide_eq_false hsm]; rfl); clear hsj hsm
              clear hpb hv
              have hjk' : ¬ (j : Int) = (k : Int) := by omega
              have l0 := cell_keep hb k0 hlb
              have l1 := cell_keep hb k1 hlb
              have l2 := cell_keep hb k2 hlb
              generalize hs[j] = g at *
              obtain ⟨g0, g1, g2⟩ := g
              simp only at c0 c1 c2
              have HG := Lib.hid hhj; have HX := Lib.hid hX; have HY := Lib.hid hY; have HD := Lib.hid hD
              clear hhj hX hY hD hjk
              go_wp2_with fail
              have hzl : w.heap.size < wr.heap.size := by omega
              have zz0 : (wr.alloc (.cells #[.int .i64 g0, .int .i64 g1, .int .i64 g2] 57)).drew.frozen? ⟨w.heap.size, 0, none⟩ = false := (World.frozen?_alloc_past _ _ _ (by omega)).trans z0
              have zz1 : (wr.alloc (.cells #[.int .i64 g0, .int .i64 g1, .int .i64 g2] 57)).drew.frozen? ⟨w.heap.size, 1, none⟩ = false := (World.frozen?_alloc_past _ _ _ (by omega)).trans z1
              have zz2 : (wr.alloc (.cells #[.int .i64 g0, .int .i64 g1, .int .i64 g2] 57)).drew.frozen? ⟨w.heap.size, 2, none⟩ = false := (World.frozen?_alloc_past _ _ _ (by omega)).trans z2
              have hS0 : Below w.heap.size w (wr.alloc (.cells #[.int .i64 g0, .int .i64 g1, .int .i64 g2] 57)).drew := (hb.alloc (by omega) _).drew
              go_upto_region 6 with fail
              go_cut [8] (fun s8 wx => ∃ bp : Nat, s8 = .pointer (some ⟨bp, 0, none⟩) ∧ Below w.heap.size w wx ∧ w.heap.size + 1 ≤ wx.heap.size ∧ w.heap.size + 1 ≤ bp ∧ bp < wx.heap.size ∧ wx.cell? ⟨bp, 0, none⟩ = some (.int .i64 X) ∧ wx.cell? ⟨bp, 1, none⟩ = some (.int .i64 Y) ∧ wx.cell? ⟨bp, 2, none⟩ = some (.int .i64 D) ∧ wx.cell? ⟨w.heap.size, 0, none⟩ = some (.int .i64 fx) ∧ wx.cell? ⟨w.heap.size, 1, none⟩ = some (.int .i64 fy) ∧ wx.cell? ⟨w.heap.size, 2, none⟩ = some (.int .i64 fd) ∧ wx.cell? ⟨wr.heap.size, 0, none⟩ = some (.int .i64 g0) ∧ wx.cell? ⟨wr.heap.size, 1, none⟩ = some (.int .i64 g1) ∧ wx.cell? ⟨wr.heap.size, 2, none⟩ = some (.int .i64 g2) ∧ wx.cell? ⟨b, (off+k*3), none⟩ = some (.int .i64 x0) ∧ wx.cell? ⟨b, (off+k*3+1), none⟩ = some (.int .i64 x1) ∧ wx.cell? ⟨b, (off+k*3+2), none⟩ = some (.int .i64 x2) ∧ wx.frozen? ⟨w.heap.size, 0, none⟩ = false ∧ wx.frozen? ⟨w.heap.size, 1, none⟩ = false ∧ wx.frozen? ⟨w.heap.size, 2, none⟩ = false ∧ wr.heap.size < wx.heap.size ∧ b < wx.heap.size)
              case first =>
                go_region_held3 (fun w' => (Below w.heap.size w w' ∧ w.heap.size + 1 ≤ w'.heap.size) ∧ w'.cell? ⟨w.heap.size, 0, none⟩ = some (.int .i64 fx) ∧ w'.cell? ⟨w.heap.size, 1, none⟩ = some (.int .i64 fy) ∧ w'.cell? ⟨w.heap.size, 2, none⟩ = some (.int .i64 fd) ∧ w'.cell? ⟨wr.heap.size, 0, none⟩ = some (.int .i64 g0) ∧ w'.cell? ⟨wr.heap.size, 1, none⟩ = some (.int .i64 g1) ∧ w'.cell? ⟨wr.heap.size, 2, none⟩ = some (.int .i64 g2) ∧ w'.cell? ⟨b, (off+k*3), none⟩ = some (.int .i64 x0) ∧ w'.cell? ⟨b, (off+k*3+1), none⟩ = some (.int .i64 x1) ∧ w'.cell? ⟨b, (off+k*3+2), none⟩ = some (.int .i64 x2) ∧ w'.frozen? ⟨w.heap.size, 0, none⟩ = false ∧ w'.frozen? ⟨w.heap.size, 1, none⟩ = false ∧ w'.frozen? ⟨w.heap.size, 2, none⟩ = false ∧ wr.heap.size < w'.heap.size ∧ b < w'.heap.size) (first | (go_split_ands; refine ⟨⟨?_, ?_⟩, ?_, ?_, ?_, ?_, ?_, ?_, ?_, ?_, ?_, ?_, ?_, ?_, ?_, ?_⟩ <;> first | (with_reducible assumption) | (with_reducible show Below _ _ _; (repeat (first | (with_reducible exact Below.refl _ _) | (with_reducible assumption) | (with_reducible refine below_drewN ?_ _) | (with_reducible refine Below.drew ?_) | ((with_reducible refine Below.alloc ?_ ?_ _); rotate_left; (focus first | omega | (simp <;> omega))) | ((with_reducible refine Below.setCell ?_ ?_ _); rotate_left; (focus first | omega | (simp <;> omega))))); done) | omega | (go_keep; done) | (go_simp; done) | (simp <;> omega) | (fail_if_success skip)))
                  (first | (go_at_call 82; with_reducible refine (l05Cross_is HH.out HG.out HX.out HY.out HD.out _).mono ?_; rintro e w1 ⟨rfl, hb1⟩; go_split_ands; have cc0 := cell_keep (p := ⟨w.heap.size, 0, none⟩) (v := .int .i64 fx) hb1 (by first | (with_reducible assumption) | (go_keep; done) | (go_simp; done) | (simp; done)) (by first | omega | (simp <;> omega)); have cc1 := cell_keep (p := ⟨w.heap.size, 1, none⟩) (v := .int .i64 fy) hb1 (by first | (with_reducible assumption) | (go_keep; done) | (go_simp; done) | (simp; done)) (by first | omega | (simp <;> omega)); have cc2 := cell_keep (p := ⟨w.heap.size, 2, none⟩) (v := .int .i64 fd) hb1 (by first | (with_reducible assumption) | (go_keep; done) | (go_simp; done) | (simp; done)) (by first | omega | (simp <;> omega)); have cc3 := cell_keep (p := ⟨wr.heap.size, 0, none⟩) (v := .int .i64 g0) hb1 (by first | (with_reducible assumption) | (go_keep; done) | (go_simp; done) | (simp; done)) (by first | omega | (simp <;> omega)); have cc4 := cell_keep (p := ⟨wr.heap.size, 1, none⟩) (v := .int .i64 g1) hb1 (by first | (with_reducible assumption) | (go_keep; done) | (go_simp; done) | (simp; done)) (by first | omega | (simp <;> omega)); have cc5 := cell_keep (p := ⟨wr.heap.size, 2, none⟩) (v := .int .i64 g2) hb1 (by first | (with_reducible assumption) | (go_keep; done) | (go_simp; done) | (simp; done)) (by first | omega | (simp <;> omega)); have cc6 := cell_keep (p := ⟨b, (off+k*3), none⟩) (v := .int .i64 x0) hb1 (by first | (with_reducible assumption) | (go_keep; done) | (go_simp; done) | (simp; done)) (by first | omega | (simp <;> omega)); have cc7 := cell_keep (p := ⟨b, (off+k*3+1), none⟩) (v := .int .i64 x1) hb1 (by first | (with_reducible assumption) | (go_keep; done) | (go_simp; done) | (simp; done)) (by first | omega | (simp <;> omega)); have cc8 := cell_keep (p := ⟨b, (off+k*3+2), none⟩) (v := .int .i64 x2) hb1 (by first | (with_reducible assumption) | (go_keep; done) | (go_simp; done) | (simp; done)) (by first | omega | (simp <;> omega)); have cf0 := frozen_keep (p := ⟨w.heap.size, 0, none⟩) hb1 (by first | (with_reducible assumption) | (go_keep; done) | (go_simp; done) | (simp; done)) (by first | omega | (simp <;> omega)); have cf1 := frozen_keep (p := ⟨w.heap.size, 1, none⟩) hb1 (by first | (with_reducible assumption) | (go_keep; done) | (go_simp; done) | (simp; done)) (by first | omega | (simp <;> omega)); have cf2 := frozen_keep (p := ⟨w.heap.size, 2, none⟩) hb1 (by first | (with_reducible assumption) | (go_keep; done) | (go_simp; done) | (simp; done)) (by first | omega | (simp <;> omega)); have hS1 : Below w.heap.size w w1 := S_below hb1 (by repeat (first | exact Below.refl _ _ | assumption | refine below_drewN ?_ _ | refine Below.drew ?_ | refine Below.alloc ?_ (by first | omega | (simp <;> omega)) _ | refine Below.setCell ?_ (by first | omega | (simp <;> omega)) _)) (by first | omega | (simp <;> omega)); have hz1 : w.heap.size + 1 ≤ w1.heap.size := S_size hb1 (by first | omega | (simp <;> omega)); have hqb0 : w.heap.size < w1.heap.size := S_lt hb1 (by first | omega | (simp <;> omega)); have hqb1 : wr.heap.size < w1.heap.size := S_lt hb1 (by first | omega | (simp <;> omega)); have hqb2 : b < w1.heap.size := S_lt hb1 (by first | omega | (simp <;> omega)); (first | (have hnz := S_lt hb1 hnz; have nb0 := cell_keep hb1 nb0 (by omega); have nb1 := cell_keep hb1 nb1 (by omega); have nb2 := cell_keep hb1 nb2 (by omega); have nf0 := frozen_keep hb1 nf0 (by omega); have nf1 := frozen_keep hb1 nf1 (by omega); have nf2 := frozen_keep hb1 nf2 (by omega)) | (have _tok : Below (World.drew (World.alloc _ (Obj.cells #[.int .i64 0,  .int .i64 0,  .int .i64 0] _ _))).heap.size _ w1 := hb1; go_must (have nb0 := cell_keep (p := ⟨wr.heap.size + 1, 0, none⟩) (v := .int .i64 0) hb1 (cell_new_drew _ _ _ _ (by simp) rfl) (by first | omega | (simp <;> omega))); go_must (have nb1 := cell_keep (p := ⟨wr.heap.size + 1, 1, none⟩) (v :=  .int .i64 0) hb1 (cell_new_drew _ _ _ _ (by simp) rfl) (by first | omega | (simp <;> omega))); go_must (have nb2 := cell_keep (p := ⟨wr.heap.size + 1, 2, none⟩) (v :=  .int .i64 0) hb1 (cell_new_drew _ _ _ _ (by simp) rfl) (by first | omega | (simp <;> omega))); go_must (have nf0 := frozen_keep (p := ⟨wr.heap.size + 1, 0, none⟩) hb1 (frozen_new_drew _ _ _ _ (by simp)) (by first | omega | (simp <;> omega))); go_must (have nf1 := frozen_keep (p := ⟨wr.heap.size + 1, 1, none⟩) hb1 (frozen_new_drew _ _ _ _ (by simp)) (by first | omega | (simp <;> omega))); go_must (have nf2 := frozen_keep (p := ⟨wr.heap.size + 1, 2, none⟩) hb1 (frozen_new_drew _ _ _ _ (by simp)) (by first | omega | (simp <;> omega))); go_must (have hnz : wr.heap.size + 1 < w1.heap.size := S_lt hb1 (by first | omega | (simp <;> omega))); go_must (have hnl : w.heap.size + 1 ≤ wr.heap.size + 1 := by omega); go_must (have hne0 : ¬ wr.heap.size + 1 = w.heap.size := by omega); go_must (have hnf0 : ¬ w.heap.size = wr.heap.size + 1 := by omega); go_must (have hne1 : ¬ wr.heap.size + 1 = wr.heap.size := by omega); go_must (have hnf1 : ¬ wr.heap.size = wr.heap.size + 1 := by omega); go_must (have hne2 : ¬ wr.heap.size + 1 = b := by omega); go_must (have hnf2 : ¬ b = wr.heap.size + 1 := by omega)) | (have nb0 := cell_keep hb1 (cell_new_at _ _ _ 0 (v := .int .i64 0) rfl) (new_lt _ _); have nb1 := cell_keep hb1 (cell_new_at _ _ _ 1 (v :=  .int .i64 0) rfl) (new_lt _ _); have nb2 := cell_keep hb1 (cell_new_at _ _ _ 2 (v :=  .int .i64 0) rfl) (new_lt _ _); have nf0 := frozen_keep hb1 (frozen_new_at _ _ _ 0) (new_lt _ _); have nf1 := frozen_keep hb1 (frozen_new_at _ _ _ 1) (new_lt _ _); have nf2 := frozen_keep hb1 (frozen_new_at _ _ _ 2) (new_lt _ _); have hnz := S_lt hb1 (new_lt _ _)) | skip)))
                all_goals
                  go_split_ands
                  go_wp2_with fail
                  go_meet
                  refine ⟨_, rfl, ?_, ?_, ?_, ?_, ?_, ?_, ?_, ?_, ?_, ?_, ?_, ?_, ?_, ?_, ?_, ?_, ?_, ?_, ?_, ?_, ?_⟩ <;> first | (with_reducible assumption) | omega | (simp only [World.size_setCell, World.size_alloc]; omega) | (go_keep; done) | (go_simp; done) | exact set_0 nb0 _ | exact set2_1 nb1 _ _ | exact set3_2 nb2 _ _ _ | (simp <;> omega)
              case rest =>
                obtain ⟨bp, rfl, hcut⟩ := hcut
                go_split_ands
                go_wp2_with fail
                go_at_call 83; with_reducible refine (l05Inside_is HV.out _ HN.out (HA.out.step (by assumption)) hm HK.out HPB.out).mono ?_
                rintro e wd ⟨rfl, hb1⟩
                have cc_wd0 := cell_keep (p := ⟨w.heap.size, 0, none⟩) (v := .int .i64 fx) hb1 (by first | assumption | (go_keep; done) | (go_simp; done) | (simp; done)) (by first | omega | (simp <;> omega))
                have cc_wd1 := cell_keep (p := ⟨w.heap.size, 1, none⟩) (v := .int .i64 fy) hb1 (by first | assumption | (go_keep; done) | (go_simp; done) | (simp; done)) (by first | omega | (simp <;> omega))
                have cc_wd2 := cell_keep (p := ⟨w.heap.size, 2, none⟩) (v := .int .i64 fd) hb1 (by first | assumption | (go_keep; done) | (go_simp; done) | (simp; done)) (by first | omega | (simp <;> omega))
                have cc_wd3 := cell_keep (p := ⟨bp, 0, none⟩) (v := .int .i64 X) hb1 (by first | assumption | (go_keep; done) | (go_simp; done) | (simp; done)) (by first | omega | (simp <;> omega))
                have cc_wd4 := cell_keep (p := ⟨bp, 1, none⟩) (v := .int .i64 Y) hb1 (by first | assumption | (go_keep; done) | (go_simp; done) | (simp; done)) (by first | omega | (simp <;> omega))
                have cc_wd5 := cell_keep (p := ⟨bp, 2, none⟩) (v := .int .i64 D) hb1 (by first | assumption | (go_keep; done) | (go_simp; done) | (simp; done)) (by first | omega | (simp <;> omega))
                have cf_wd0 := frozen_keep (p := ⟨w.heap.size, 0, none⟩) hb1 (by first | assumption | (go_keep; done) | (go_simp; done) | (simp; done)) (by first | omega | (simp <;> omega))
                have cf_wd1 := frozen_keep (p := ⟨w.heap.size, 1, none⟩) hb1 (by first | assumption | (go_keep; done) | (go_simp; done) | (simp; done)) (by first | omega | (simp <;> omega))
                have cf_wd2 := frozen_keep (p := ⟨w.heap.size, 2, none⟩) hb1 (by first | assumption | (go_keep; done) | (go_simp; done) | (simp; done)) (by first | omega | (simp <;> omega))
                have hS1_wd : Below w.heap.size w wd := S_below hb1 (by repeat (first | exact Below.refl _ _ | assumption | refine below_drewN ?_ _ | refine Below.drew ?_ | refine Below.alloc ?_ (by first | omega | (simp <;> omega)) _ | refine Below.setCell ?_ (by first | omega | (simp <;> omega)) _)) (by first | omega | (simp <;> omega))
                have hz1_wd : w.heap.size + 1 ≤ wd.heap.size := S_size hb1 (by first | omega | (simp <;> omega))
                have hqb_wd0 : w.heap.size < wd.heap.size := S_lt hb1 (by first | omega | (simp <;> omega))
                have hqb_wd1 : bp < wd.heap.size := S_lt hb1 (by first | omega | (simp <;> omega))
                clear hb1
                go_wp2_with fail
                go_at_call 84; with_reducible refine (l05Differ_is HSP.out HSJ.out HSM.out HPB2.out HPB.out _).mono ?_
                rintro e we ⟨rfl, hb1⟩
                have cc_we0 := cell_keep (p := ⟨w.heap.size, 0, none⟩) (v := .int .i64 fx) hb1 (by first | assumption | (go_keep; done) | (go_simp; done) | (simp; done)) (by first | omega | (simp <;> omega))
                have cc_we1 := cell_keep (p := ⟨w.heap.size, 1, none⟩) (v := .int .i64 fy) hb1 (by first | assumption | (go_keep; done) | (go_simp; done) | (simp; done)) (by first | omega | (simp <;> omega))
                have cc_we2 := cell_keep (p := ⟨w.heap.size, 2, none⟩) (v := .int .i64 fd) hb1 (by first | assumption | (go_keep; done) | (go_simp; done) | (simp; done)) (by first | omega | (simp <;> omega))
                have cc_we3 := cell_keep (p := ⟨bp, 0, none⟩) (v := .int .i64 X) hb1 (by first | assumption | (go_keep; done) | (go_simp; done) | (simp; done)) (by first | omega | (simp <;> omega))
                have cc_we4 := cell_keep (p := ⟨bp, 1, none⟩) (v := .int .i64 Y) hb1 (by first | assumption | (go_keep; done) | (go_simp; done) | (simp; done)) (by first | omega | (simp <;> omega))
                have cc_we5 := cell_keep (p := ⟨bp, 2, none⟩) (v := .int .i64 D) hb1 (by first | assumption | (go_keep; done) | (go_simp; done) | (simp; done)) (by first | omega | (simp <;> omega))
                have cf_we0 := frozen_keep (p := ⟨w.heap.size, 0, none⟩) hb1 (by first | assumption | (go_keep; done) | (go_simp; done) | (simp; done)) (by first | omega | (simp <;> omega))
                have cf_we1 := frozen_keep (p := ⟨w.heap.size, 1, none⟩) hb1 (by first | assumption | (go_keep; done) | (go_simp; done) | (simp; done)) (by first | omega | (simp <;> omega))
                have cf_we2 := frozen_keep (p := ⟨w.heap.size, 2, none⟩) hb1 (by first | assumption | (go_keep; done) | (go_simp; done) | (simp; done)) (by first | omega | (simp <;> omega))
                have hS1_we : Below w.heap.size w we := S_below hb1 (by repeat (first | exact Below.refl _ _ | assumption | refine below_drewN ?_ _ | refine Below.drew ?_ | refine Below.alloc ?_ (by first | omega | (simp <;> omega)) _ | refine Below.setCell ?_ (by first | omega | (simp <;> omega)) _)) (by first | omega | (simp <;> omega))
                have hz1_we : w.heap.size + 1 ≤ we.heap.size := S_size hb1 (by first | omega | (simp <;> omega))
                have hqb_we0 : w.heap.size < we.heap.size := S_lt hb1 (by first | omega | (simp <;> omega))
                have hqb_we1 : bp < we.heap.size := S_lt hb1 (by first | omega | (simp <;> omega))
                clear hb1
                go_wp2_with fail
                go_ret
                exact ⟨true, rfl, ⟨fun _ => HE.out, fun _ => rfl⟩, hS1_we⟩
    · have HE := Lib.hid (seen_end HSn.out (by have := HN.out; omega) HH.out HK.out)
      go_wp2_with fail
      go_ret
      exact ⟨false, rfl, ⟨(fun e => nomatch e), fun e => absurd e HE.out⟩, (by repeat (first | exact Below.refl _ _ | assumption | refine below_drewN ?_ _ | refine Below.drew ?_ | refine Below.alloc ?_ (by first | omega | (simp <;> omega)) _ | refine Below.setCell ?_ (by first | omega | (simp <;> omega)) _))⟩

/-- l05IsEdge's answer. -/
def edI (L : List Hp) (h : Hp) : Bool := L.any fun g => L.any fun g' => ptIn L h g && (ptIn L h g' && !decide (samePt h g g'))

theorem edI_iff (L : List Hp) (h : Hp) : edI L h = true ↔ EdgeI L h := by
  unfold edI EdgeI
  simp

theorem edI_eq {L : List Hp} {h : Hp} {v : Bool} (hv : v = true ↔ EdgeI L h) : v = edI L h := by
  rw [Bool.eq_iff_iff, edI_iff]; exact hv
/-- l05Make's result. -/
def mkR (hs : List Hp) : List Hp := if ((sortH (hs ++ frameL)).filter (edI (sortH (hs ++ frameL)))).length < 3 then [] else (sortH (hs ++ frameL)).filter (edI (sortH (hs ++ frameL)))

theorem mkR_few {hs L : List Hp} (hL : L = sortH (hs ++ frameL)) (h : (L.filter (edI L)).length < 3) : mkR hs = [] := by subst hL; unfold mkR; rw [if_pos h]

theorem mkR_many {hs L : List Hp} (hL : L = sortH (hs ++ frameL)) (h : ¬ (L.filter (edI L)).length < 3) : mkR hs = L.filter (edI L) := by subst hL; unfold mkR; rw [if_neg h]

theorem filter_step {L : List Hp} {p : Hp → Bool} {k : Nat} (hk : k < L.length) : (L.take (k + 1)).filter p = if p L[k] then (L.take k).filter p ++ [L[k]] else (L.take k).filter p := by
  rw [List.take_succ_eq_append_getElem hk, List.filter_append]
  cases h : p L[k] <;> simp [h]

theorem frame_ok : ∀ x ∈ frameL, okH x = true := by
  intro x hx
  simp only [frameL, List.mem_cons, List.not_mem_nil, or_false] at hx
  rcases hx with rfl | rfl | rfl | rfl <;> decide

theorem sortH_len (xs : List Hp) : (sortH xs).length ≤ xs.length := by
  suffices h : ∀ (xs l : List Hp), (xs.foldl insH l).length ≤ l.length + xs.length by
    have := h xs []
    rw [List.length_nil, Nat.zero_add] at this; exact this
  intro xs
  induction xs with
  | nil => intro l; simp
  | cons x xs ih => intro l; have := ih (insH l x); have := insH_len l x; simp only [List.foldl_cons, List.length_cons]; omega

theorem sortH_ok {xs : List Hp} (h : ∀ x ∈ xs, okH x = true) : ∀ x ∈ sortH xs, okH x = true := fun x hx => h x (sortH_mem hx)

theorem sFrame_any (w : World) : Calls Try.prog 12 #[] w fun e w' => ∃ g c, e = .returned (.slice (some ⟨g, 0, none⟩) frameL.length c) ∧ HsAt w' w'.heap.size (some ⟨g, 0, none⟩) frameL ∧ Below w.heap.size w w' :=
  (sFrameHalves_any w).mono fun e w' ⟨g, c, h1, h2, _, h4⟩ => ⟨g, c, h1, h2.of_len, h4⟩

theorem size_1 (w : World) (o : Obj) : w.heap.size + 1 = (w.alloc o).heap.size := by rw [World.size_alloc]

theorem le_size_1 (w : World) (o : Obj) : w.heap.size + 1 ≤ (w.alloc o).heap.size := by rw [World.size_alloc]; exact Nat.le_refl _

theorem le_size_2 (w : World) (o o' : Obj) : w.heap.size + 1 ≤ ((w.alloc o).alloc o').heap.size := by rw [World.size_alloc, World.size_alloc]; omega

theorem own_empty {W : World} {B g : Nat} (hg : g = W.heap.size) (hB : B ≤ W.heap.size) : OwnH (W.alloc (.cells #[] 57)) B (.slice (some ⟨g, 0, none⟩) 0 0) [] := by
  subst hg; exact World.ownsRow_lit W #[] 0 hB (by unfold maxLen; omega) rfl

theorem OwnH.setFar {w : World} {B : Nat} {v : Value} {hs : List Hp} (h : OwnH w B v hs) {p : Addr} (hp : v.ownBlock ≠ some p.block) (u : Value) : OwnH (w.setCell p u) B v hs :=
  World.ownsRow.kept h (row := some p.block) ⟨rfl, rfl, rfl, by simp, fun k _ hk => Below.heap_setCell w p u k (fun e => hk (by rw [e]))⟩ (.inr hp)

theorem OwnH.near {w : World} {B b : Nat} {v : Value} {hs : List Hp} (h : OwnH w B v hs) (hb : b < B) : v.ownBlock ≠ some b := fun e => by
  have := h.low _ e; omega

theorem OwnH.wide {w : World} {B B' : Nat} {v : Value} {hs : List Hp} (h : OwnH w B v hs) (hB : B' ≤ B) : OwnH w B' v hs := h.less hB

theorem l05Sorted_to {A : Option Addr} {n c : Nat} {hs L : List Hp} {w : World} (hL : sortH hs = L) (hn : n = hs.length) (hA : HsAt w w.heap.size A hs) (hm : n ≤ 1048576) (hok : ∀ h ∈ hs, okH h = true) :
    Calls Try.prog 65 #[.slice A n c] w fun e w' => ∃ Av cv, e = .returned (.slice Av L.length cv) ∧ OwnH w' w.heap.size (.slice Av L.length cv) L ∧ Below w.heap.size w w' := by
  subst hL
  refine (l05Sorted_any A n c hs w hn hA hm hok).mono ?_
  rintro e w' ⟨v, rfl, h1, h2⟩
  obtain ⟨Av, cv, rfl⟩ := h1.form
  exact ⟨Av, cv, rfl, h1, h2⟩

set_option maxHeartbeats 1000000 in
set_option maxRecDepth 100000 in
theorem l05Make_any (A : Option Addr) (n c : Nat) (hs : List Hp) (w : World) (hn : n = hs.length) (hA : HsAt w w.heap.size A hs) (hm : n ≤ 1000000) (hok : ∀ h ∈ hs, okH h = true) :
    Calls Try.prog 46 #[.slice A n c] w fun e w' => ∃ v, e = .returned (.agg #[v]) ∧ OwnH w' w.heap.size v (mkR hs) ∧ Below w.heap.size w w' := by
  have HA := Lib.hid hA; clear hA
  have HN := Lib.hid hn; clear hn
  have HK := Lib.hid hok; clear hok
  go_enter Try.func46, Try.ntmps46
  go_wp2_with (at_builtin; refine wpList_appendH rfl (.tmp 7) (.tmp 8) rfl (own_empty (B := w.heap.size + 1) (W := w.alloc (.cells #[.slice none 0 0] 33)) (g := w.heap.size + 1) (size_1 _ _) (le_size_1 _ _)) rfl rfl (M := hs) HN.out (HA.out.step (((Below.refl _ _).alloc (Nat.le_refl _) _).alloc (Nat.le_of_lt (new_lt _ _)) _)) (by rw [← HN.out]; simp; omega) (le_size_2 _ _ _) ?_; intro v1 w1 hap)
  have hE := own_empty (B := w.heap.size + 1) (W := w.alloc (.cells #[.slice none 0 0] 33)) (g := w.heap.size + 1) (size_1 _ _) (le_size_1 _ _)
  have B1 : Below (w.heap.size + 1) (w.alloc (.cells #[.slice none 0 0] 33)) w1 := hap.below hE ((Below.refl _ _).alloc (le_size_1 _ _) _) (le_size_2 _ _ _)
  have O1 : OwnH w1 (w.heap.size + 1) v1 hs := hap.1
  have s1 : w.heap.size + 1 ≤ w1.heap.size := Nat.le_trans (le_size_1 _ _) B1.size
  have O1 := Lib.hid O1
  have B1 := Lib.hid B1
  clear hap hE
  go_at_call 12; refine (sFrame_any w1).mono ?_; rintro e w2 ⟨g2, c2, rfl, hF2, hb2⟩
  have O2 := Lib.hid (O1.out.kept hb2)
  have B2 := Lib.hid (B1.out.trans (hb2.mono s1))
  have s2 : w.heap.size + 1 ≤ w2.heap.size := Nat.le_trans s1 hb2.size
  have HF2 := Lib.hid hF2
  clear O1 B1 s1 hb2 hF2
  go_wp2_with (at_builtin; refine wpList_appendH rfl (.tmp 9) (.tmp 10) rfl O2.out rfl rfl (M := frameL) rfl HF2.out (by rw [← HN.out]; show n + 4 ≤ _; omega) s2 ?_; intro v3 w3 hap; obtain ⟨g3, c3, rfl, hg3B, hg3⟩ := hap.shape (k := 4) rfl (by decide))
  have B3 := Lib.hid (hap.below O2.out B2.out s2)
  have O3 := Lib.hid hap.1
  have s3 : w.heap.size + 1 ≤ w3.heap.size := Nat.le_trans s2 hap.2.1.size
  have hk3 : ∀ x ∈ hs ++ frameL, okH x = true := fun x hx => by
    rcases List.mem_append.1 hx with h | h
    · exact HK.out x h
    · exact frame_ok x h
  have HK3 := Lib.hid hk3
  clear hap O2 B2 s2 HF2 hk3
  obtain ⟨L, hL⟩ : ∃ L, sortH (hs ++ frameL) = L := ⟨_, rfl⟩
  have HE := Lib.hid hL
  clear hL
  go_at_call 65; refine (l05Sorted_to (L := L) HE.out (by simp [frameL]) O3.out.reads.2 (by rw [← HN.out]; omega) HK3.out).mono ?_; rintro e w4 ⟨Av, cv, rfl, hO4, hb4⟩
  have B4 := Lib.hid (B3.out.trans (hb4.mono s3))
  have s4 : w.heap.size + 1 ≤ w4.heap.size := Nat.le_trans s3 hb4.size
  have HL := Lib.hid hO4.of_len
  have hkL := sortH_ok HK3.out
  have hlL := sortH_len (hs ++ frameL)
  rw [HE.out] at hkL hlL
  have HKL := Lib.hid hkL
  have hn4 : L.length ≤ 1000004 := by rw [List.length_append, ← HN.out] at hlL; simp [frameL] at hlL; omega
  have cR := cell_keep (p := ⟨w.heap.size, 0, none⟩) (v := .slice none 0 0) (B4.out.mono (Nat.le_of_eq (size_1 _ _).symm)) (by first | (go_simp; done) | (simp; done)) (by simp)
  have fR := frozen_keep (p := ⟨w.heap.size, 0, none⟩) (B4.out.mono (Nat.le_of_eq (size_1 _ _).symm)) (by first | (go_simp; done) | (simp; done)) (by simp)
  have S4 : Below w.heap.size w w4 := ((Below.refl _ _).alloc (Nat.le_refl _) _).trans (B4.out.mono (by omega))
  clear hkL hlL hb4 hO4 O3 B3 HK3 s3
  have hE := own_empty (B := w4.heap.size) (W := w4) (g := w4.heap.size) rfl (Nat.le_refl _)
  have HOE := Lib.hid hE
  clear hE
  go_wp2_with fail
  go_loopw [4, 16] (fun v i wr => ∃ (j : Nat) (M : List Hp) (AO : Option Addr) (cO : Nat), j ≤ L.length ∧ i = .int .i64 j ∧ v = .slice AO M.length cO ∧ M.length ≤ j ∧ RowKit.Hid (M = (L.take j).filter (edI L)) ∧ RowKit.Hid (OwnH wr w4.heap.size (.slice AO M.length cO) M) ∧ Below w4.heap.size w4 wr) (fun _ i _ => L.length - (intOf i).toNat)
  case atStart => exact ⟨0, [], _, _, Nat.zero_le _, rfl, rfl, Nat.le_refl _, rfl, HOE.out, (Below.refl _ _).alloc (Nat.le_refl _) _⟩
  case round =>
    obtain ⟨j, M, AO, cO, hj, rfl, rfl, hMj, HM, HO, hb⟩ := hrel
    have hsz := hb.size
    by_cases hlt : j < L.length
    · obtain ⟨bL, oL, rfl, hlb, c0, c1, c2⟩ := (HL.out.below hb).at_ hlt
      have hlb' : bL < wr.heap.size := by omega
      have hget := List.getElem?_eq_getElem hlt
      have hfs := filter_step (p := edI L) hlt
      generalize L[j] = h at *
      obtain ⟨h0, h1, h2⟩ := h
      simp only at c0 c1 c2
      have HG := Lib.hid hget; clear hget
      have hbw : Below w.heap.size w wr := S4.trans (hb.mono (by omega))
      go_wp2_with fail
      go_at_call 66; with_reducible refine (l05IsEdge_any _ L.length cv j L _ rfl ((HL.out.step hb).step ((Below.refl _ _).alloc (Nat.le_refl _) _)) (by omega) HKL.out (h0, h1, h2) HG.out).mono ?_
      rintro e w6 ⟨v, rfl, hv, hb1⟩
      have hb6 : Below w4.heap.size w4 w6 := (hb.alloc hsz _).trans (hb1.mono (Nat.le_trans hsz (Nat.le_of_lt (new_lt _ _))))
      have HO6 := Lib.hid ((HO.out.kept ((Below.refl _ _).alloc (Nat.le_refl _) _)).kept hb1)
      have cc_w60 := cell_keep (p := ⟨wr.heap.size, 0, none⟩) (v := .int .i64 h0) hb1 (by first | assumption | (go_keep; done) | (go_simp; done) | (simp; done)) (by first | omega | (simp <;> omega))
      have cc_w61 := cell_keep (p := ⟨wr.heap.size, 1, none⟩) (v := .int .i64 h1) hb1 (by first | assumption | (go_keep; done) | (go_simp; done) | (simp; done)) (by first | omega | (simp <;> omega))
      have cc_w62 := cell_keep (p := ⟨wr.heap.size, 2, none⟩) (v := .int .i64 h2) hb1 (by first | assumption | (go_keep; done) | (go_simp; done) | (simp; done)) (by first | omega | (simp <;> omega))
      have hS1_w6 : Below w.heap.size w w6 := S_below hb1 (by repeat (first | exact Below.refl _ _ | assumption | refine below_drewN ?_ _ | refine Below.drew ?_ | refine Below.alloc ?_ (by first | omega | (simp <;> omega)) _ | refine Below.setCell ?_ (by first | omega | (simp <;> omega)) _)) (by first | omega | (simp <;> omega))
      have hz1_w6 : w.heap.size + 1 ≤ w6.heap.size := S_size hb1 (by first | omega | (simp <;> omega))
      have hqb_w60 : wr.heap.size < w6.heap.size := S_lt hb1 (by first | omega | (simp <;> omega))
      clear hb1
      have hsz6 := hb6.size
      cases (edI_eq hv).symm
      clear hv
      cases he : edI L (h0, h1, h2)
      · rw [he] at hfs
        have HF := Lib.hid hfs
        clear hfs he
        go_wp2_with fail
        go_roundw
        case rel => exact ⟨j + 1, M, AO, cO, by omega, by go_num, rfl, by omega, (HM.out.trans HF.out.symm : _ = _), HO6, hb6⟩
        case measure => simp [intOf]; omega
      · rw [he] at hfs
        have HF := Lib.hid hfs
        clear hfs he
        go_wp2_with (at_builtin; refine wpList_appendH rfl (.tmp 24) (.tmp 26) rfl (HO6.out.kept ((Below.refl _ _).alloc (Nat.le_refl _) _)) rfl rfl (M := [(h0, h1, h2)]) rfl (hsAt_new _ _ _ _ _) (by simp; omega) (Nat.le_trans hsz6 (Nat.le_of_lt (new_lt _ _))) ?_; intro v7 w7 hap; obtain ⟨g7, c7, rfl, hg7B, hg7⟩ := hap.shape (k := 1) rfl Nat.one_pos)
        have B7 := Lib.hid (hap.below (HO6.out.kept ((Below.refl _ _).alloc (Nat.le_refl _) _)) (hb6.alloc hsz6 _) (Nat.le_trans hsz6 (Nat.le_of_lt (new_lt _ _))))
        have O7 := Lib.hid hap.1
        clear hap
        go_roundw
        case rel => exact ⟨j + 1, M ++ [(h0, h1, h2)], some ⟨g7, 0, none⟩, c7, by omega, by go_num, by rw [List.length_append]; rfl, by rw [List.length_append]; simp; omega, (by show _ = _; rw [HF.out, ← HM.out]; rfl), (by have := O7.out; rw [List.length_append]; exact this), B7.out⟩
        case measure => simp [intOf]; omega
    · have cRr := cell_keep (p := ⟨w.heap.size, 0, none⟩) hb cR (by simp; omega)
      have fRr := frozen_keep (p := ⟨w.heap.size, 0, none⟩) hb fR (by simp; omega)
      have hbw : Below w.heap.size w wr := S4.trans (hb.mono (by omega))
      have hMf : M = L.filter (edI L) := by rw [HM.out, List.take_of_length_le (by omega)]
      by_cases h3 : M.length < 3
      · have HV := Lib.hid (mkR_few HE.out.symm (by rw [← hMf]; exact h3))
        clear hMf
        go_wp2_with fail
        exact bodyPost_ret (v := .agg #[.slice none 0 0]) (by simp [results, Try.results46, go_sem, set_0 cRr]) rfl ⟨.slice none 0 0, rfl, by rw [HV.out]; exact World.ownsRow_nil _ _ _ _, (by repeat (first | exact Below.refl _ _ | assumption | refine below_drewN ?_ _ | refine Below.drew ?_ | refine Below.alloc ?_ (by first | omega | (simp <;> omega)) _ | refine Below.setCell ?_ (by first | omega | (simp <;> omega)) _))⟩
      · have HV := Lib.hid ((mkR_many HE.out.symm (by rw [← hMf]; exact h3)).trans hMf.symm)
        have hfar := HO.out.near (b := w.heap.size) (by omega)
        have HOf := Lib.hid (((HO.out.setFar (p := ⟨w.heap.size, 0, none⟩) hfar (.slice AO M.length cO)).wide (B' := w.heap.size) (by omega)))
        clear hMf hfar
        go_wp2_with fail
        exact bodyPost_ret (v := .agg #[.slice AO M.length cO]) (by simp [results, Try.results46, go_sem, set_0 cRr]) rfl ⟨.slice AO M.length cO, rfl, by rw [HV.out]; exact HOf.out, (by repeat (first | exact Below.refl _ _ | assumption | refine below_drewN ?_ _ | refine Below.drew ?_ | refine Below.alloc ?_ (by first | omega | (simp <;> omega)) _ | refine Below.setCell ?_ (by first | omega | (simp <;> omega)) _))⟩

end Go.Proofs.Ythdaoadleeelnaa
