/- Both ways to make a region agree (plain). meetAll of the program. -/
import Derived.Test.YthdaoadleeelnaaRn13
import Derived.Test.YthdaoadleeelnaaIsE
import Derived.Test.YthdaoadleeelnaaTgt
import Derived.Test.YthdaoadleeelnaaCat
namespace Go.Proofs.Ythdaoadleeelnaa
open Go.ChangeShapes Go.WideShapes Go.ChangeAt Go.RowKit
attribute [local go_sem ↓] Go.wp_at_zero Go.wp_at_succ
set_option linter.unusedVariables false

/-- isEdge's answer where no border runs along without room. -/
def edB (L : List Hp) (h : Hp) : Bool := (L.any fun g => decide (crH h g < 0)) && ((L.any fun g => decide (0 < crH h g)) && (L.all fun g => L.all fun g' => !decide (crH h g < 0) || (!decide (0 < crH h g') || decide (mkN h g * pD h g' < mkN h g' * pD h g))))

theorem edB_iff (L : List Hp) (h : Hp) : edB L h = true ↔ EdgeB h L := by
  unfold edB EdgeB fltH
  simp only [Bool.and_eq_true, List.any_eq_true, List.all_eq_true, Bool.or_eq_true, Bool.not_eq_true', decide_eq_true_eq, decide_eq_false_iff_not]
  constructor
  · rintro ⟨a, b, c⟩
    refine ⟨a, b, fun g hg g' hg' h1 h2 => ?_⟩
    rcases c g hg g' hg' with e | e | e
    · exact absurd h1 e
    · exact absurd h2 e
    · exact e
  · rintro ⟨a, b, c⟩
    refine ⟨a, b, fun g hg g' hg' => ?_⟩
    by_cases h1 : crH h g < 0
    · by_cases h2 : 0 < crH h g'
      · exact .inr (.inr (c g hg g' hg' h1 h2))
      · exact .inr (.inl h2)
    · exact .inl h1

theorem ok_prims {xs : List Hp} (h : ∀ x ∈ xs, okH x = true) : ∀ x ∈ xs, primH x := fun x hx => okH_prim (h x hx)

theorem app_ok {hs : List Hp} (h : ∀ x ∈ hs, okH x = true) : ∀ x ∈ hs ++ frameL, okH x = true := fun x hx => by
  rcases List.mem_append.1 hx with e | e
  · exact h x e
  · exact frame_ok x e

theorem app_ok' {hs : List Hp} (h : ∀ x ∈ hs, okH x = true) : ∀ x ∈ frameL ++ hs, okH x = true := fun x hx => by
  rcases List.mem_append.1 hx with e | e
  · exact frame_ok x e
  · exact h x e

theorem ptIn_iff {xs : List Hp} (hxs : ∀ x ∈ xs, primH x) (hf : ∀ x ∈ frameL, x ∈ xs) (h g : Hp) : ptIn (sortH xs) h g = true ↔ (crH h g ≠ 0 ∧ insL (sortH xs) (pX h g) (pY h g) (pD h g)) := by
  have hall : ((sortH xs).all (inG (pX h g) (pY h g) (pD h g)) = true) ↔ insL (sortH xs) (pX h g) (pY h g) (pD h g) := by
    unfold insL inH
    rw [List.all_eq_true]
    unfold inG
    simp only [decide_eq_true_eq]
  unfold ptIn insV
  rw [Bool.and_eq_true, decide_eq_true_eq, hall]
  constructor
  · rintro ⟨⟨f0, _⟩, hi⟩
    refine ⟨fun e => f0 ?_, hi⟩
    unfold pD pS; rw [e]; rfl
  · rintro ⟨h0, hi⟩
    have hd := pD_pos h0
    obtain ⟨a, b, c, d⟩ := in_frame hxs hf (by omega) hi
    exact ⟨⟨by omega, a, b, c, d⟩, hi⟩

theorem edgeI_R {xs : List Hp} (hxs : ∀ x ∈ xs, primH x) (hf : ∀ x ∈ frameL, x ∈ xs) (h : Hp) : EdgeI (sortH xs) h ↔ EdgeR h (sortH xs) := by
  unfold EdgeI EdgeR
  constructor
  · rintro ⟨g, hg, g', hg', a, b, c⟩
    obtain ⟨a1, a2⟩ := (ptIn_iff hxs hf h g).1 a
    obtain ⟨b1, b2⟩ := (ptIn_iff hxs hf h g').1 b
    exact ⟨g, hg, g', hg', a1, b1, a2, b2, c⟩
  · rintro ⟨g, hg, g', hg', a1, b1, a2, b2, c⟩
    exact ⟨g, hg, g', hg', (ptIn_iff hxs hf h g).2 ⟨a1, a2⟩, (ptIn_iff hxs hf h g').2 ⟨b1, b2⟩, c⟩

theorem sort_swap {hs : List Hp} (h : ∀ x ∈ hs, okH x = true) : sortH (frameL ++ hs) = sortH (hs ++ frameL) := sortH_swap _ _ frame_prim (ok_prims h)

theorem mk_parts {hs L : List Hp} (h : ∀ x ∈ hs, okH x = true) (hL : sortH (frameL ++ hs) = L) : GoodL L ∧ mkR hs = (if (L.filter (edI L)).length < 3 then [] else L.filter (edI L)) ∧ (∀ x ∈ L, (edI L x = true ↔ EdgeR x L)) := by
  subst hL
  rw [sort_swap h]
  have hp := ok_prims (app_ok h)
  have hf : ∀ x ∈ frameL, x ∈ hs ++ frameL := fun x hx => List.mem_append_right _ hx
  exact ⟨good_sort hp hf, rfl, fun x _ => (edI_iff _ x).trans (edgeI_R hp hf x)⟩

theorem mk_void {hs L : List Hp} (h : ∀ x ∈ hs, okH x = true) (hL : sortH (frameL ++ hs) = L) {x : Hp} (hx : x ∈ L) (hv : ∃ g ∈ L, g ≠ x ∧ crH x g = 0 ∧ roomH g x ≤ 0) : mkR hs = [] := by
  obtain ⟨G, e, hR⟩ := mk_parts h hL
  obtain ⟨g, hg, hne, hc, hr⟩ := hv
  have hN : ¬ NoVoid L := fun N => by
    have := N g hg x hx hne (by rw [crH_neg]; omega)
    omega
  rw [e, if_pos ((make_same G (edB L) (edI L) (fun y _ => edB_iff L y) hR).2 hN)]

theorem mk_edge {hs L : List Hp} (h : ∀ x ∈ hs, okH x = true) (hL : sortH (frameL ++ hs) = L) (hN : ∀ x ∈ L, NoVd x L) : mkR hs = L.filter (edB L) := by
  obtain ⟨G, e, hR⟩ := mk_parts h hL
  have N : NoVoid L := fun g hg x hx hne hc => hN x hx g hg hne (by rw [crH_neg]; omega)
  rw [e]
  exact (make_same G (edB L) (edI L) (fun y _ => edB_iff L y) hR).1 N

theorem sort_nodup {hs L : List Hp} (h : ∀ x ∈ hs, okH x = true) (hL : sortH (frameL ++ hs) = L) : L.Nodup := sorted_nodup (mk_parts h hL).1.sorted

theorem rf_void {hs : List Hp} (hG : rfG hs = true) (h : mkR hs = []) : rfR hs = [] ∧ rfB hs = true := by
  have e : rfB hs = true := by unfold rfB; rw [hG, h]; rfl
  exact ⟨by unfold rfR; rw [e]; exact h, e⟩

theorem rf_many {hs : List Hp} (h : 40 < (mkR hs).length) : rfR hs = [] ∧ rfB hs = false := by
  have e : rfB hs = false := by unfold rfB; rw [decide_eq_false (by omega), Bool.and_false]
  exact ⟨by unfold rfR; rw [e]; rfl, e⟩

theorem rf_fit {hs : List Hp} (hG : rfG hs = true) (h : ¬ 40 < (mkR hs).length) : rfR hs = mkR hs ∧ rfB hs = true := by
  have e : rfB hs = true := by unfold rfB; rw [hG, decide_eq_true (by omega)]; rfl
  exact ⟨by unfold rfR; rw [e]; rfl, e⟩

theorem iFrame_any (w : World) : Calls Try.prog 13 #[] w fun e w' => ∃ g c, e = .returned (.slice (some ⟨g, 0, none⟩) 4 c) ∧ HsAt w' w'.heap.size (some ⟨g, 0, none⟩) frameL ∧ Below w.heap.size w w' :=
  (iFrameHalves_any w).mono fun e w' ⟨g, c, h1, h2, _, h4⟩ => ⟨g, c, h1, h2.of_len, h4⟩

theorem tightest_to {A : Option Addr} {n c : Nat} {hs L : List Hp} {w : World} (hL : sortH hs = L) (hn : n = hs.length) (hA : HsAt w w.heap.size A hs) (hm : n ≤ 1048576) (hok : ∀ h ∈ hs, okH h = true) :
    Calls Try.prog 68 #[.slice A n c] w fun e w' => ∃ Av cv, e = .returned (.slice Av L.length cv) ∧ OwnH w' w.heap.size (.slice Av L.length cv) L ∧ Below w.heap.size w w' := by
  subst hL
  refine (tightest_any A n c hs w hn hA hm hok).mono ?_
  rintro e w' ⟨v, rfl, h1, h2⟩
  obtain ⟨Av, cv, rfl⟩ := h1.form
  exact ⟨Av, cv, rfl, h1, h2⟩

theorem Apd.otherF {w w' : World} {B : Nat} {v v' : Value} {L M : List Hp} (h : Apd w B v L M v' w') {b : Nat} (hb : b < w.heap.size) (hne : v.ownBlock ≠ some b) {o : Nat} (hf : w.frozen? ⟨b, o, none⟩ = false) : w'.frozen? ⟨b, o, none⟩ = false :=
  (World.frozen?_of_block (h.2.1.block b hb (fun e => hne e.symm))).trans hf

theorem noVd_take {L : List Hp} {j : Nat} (hj : j < L.length) {x : Hp} (hx : L[j] = x) (h : ∀ y ∈ L.take j, NoVd y L) (hn : NoVd x L) : ∀ y ∈ L.take (j + 1), NoVd y L := fun y hy => by
  rw [take_app hj, List.mem_append, List.mem_singleton] at hy
  rcases hy with hy | rfl
  · exact h y hy
  · rw [hx]; exact hn

set_option maxHeartbeats 1000000 in
set_option maxRecDepth 100000 in
theorem meetAll_any (A : Option Addr) (n c : Nat) (hs : List Hp) (w : World) (hn : n = hs.length) (hA : HsAt w w.heap.size A hs) (hm : n ≤ 40) (hok : hs.all okH = true) :
    Calls Try.prog 52 #[.slice A n c] w (RPost (rfR hs) (rfB hs) w) := by
  have hG : rfG hs = true := by unfold rfG; rw [hok, decide_eq_true (by omega)]; rfl
  have hok' : ∀ h ∈ hs, okH h = true := List.all_eq_true.1 hok
  have HGG := Lib.hid hG
  have HA := Lib.hid hA; clear hA
  have HN := Lib.hid hn; clear hn
  have HK := Lib.hid hok'
  have HK' := Lib.hid (app_ok' hok')
  clear hG hok' hok
  obtain ⟨L, hL⟩ : ∃ L, sortH (frameL ++ hs) = L := ⟨_, rfl⟩
  have HE := Lib.hid hL
  have HND := Lib.hid (sort_nodup HK.out hL)
  have hkL := sortH_ok HK'.out
  have hlL := sortH_len (frameL ++ hs)
  rw [hL] at hkL hlL
  have hn4 : L.length ≤ 44 := by rw [List.length_append, ← HN.out, show frameL.length = 4 from rfl] at hlL; omega
  have HKL := Lib.hid hkL
  clear hL hkL hlL
  go_enter Try.func52, Try.ntmps52
  go_wp2_with fail
  go_at_call 13; refine (iFrame_any _).mono ?_; rintro e w1 ⟨g1, c1, rfl, hF1, hb1⟩
  have HF1 := Lib.hid hF1
  have B1 := Lib.hid (hb1.mono (Nat.le_of_eq (size_1 _ _)))
  have s1 : w.heap.size + 1 ≤ w1.heap.size := Nat.le_trans (le_size_1 _ _) hb1.size
  clear hF1 hb1
  go_wp2_with fail
  have S1 : Below w.heap.size w w1 := ((Below.refl _ _).alloc (Nat.le_refl _) _).trans (B1.out.mono (by omega))
  generalize hWc : w1.alloc (.cells #[.slice (some ⟨g1, 0, none⟩) 4 c1, .slice A n c] 22) = Wc
  have sWc : w1.heap.size < Wc.heap.size := by rw [← hWc]; exact new_lt _ _
  have bWc : Below w1.heap.size w1 Wc := by rw [← hWc]; exact (Below.refl _ _).alloc (Nat.le_refl _) _
  have cc0 : Wc.cell? ⟨w1.heap.size, 0, none⟩ = some (.slice (some ⟨g1, 0, none⟩) 4 c1) := by rw [← hWc]; exact cell_new_at w1 _ _ 0 rfl
  have cc1 : Wc.cell? ⟨w1.heap.size, 1, none⟩ = some (.slice A n c) := by rw [← hWc]; exact cell_new_at w1 _ _ 1 rfl
  have HFc := Lib.hid (HF1.out.step bWc)
  have HAc := Lib.hid ((HA.out.step S1).step bWc)
  have BWc := Lib.hid (B1.out.trans (bWc.mono s1))
  clear hWc
  go_at_call 69; refine (concatH_any w1.heap.size (some ⟨g1, 0, none⟩) A 4 n c1 c frameL hs Wc cc0 cc1 sWc rfl HN.out HFc.out HAc.out (by omega) (by omega)).mono ?_; rintro e w2 ⟨A2, c2, rfl, hO2, hb2⟩
  have B2 := Lib.hid (BWc.out.trans (hb2.mono (by omega)))
  have hs2 : w.heap.size + 1 ≤ w2.heap.size := Nat.le_trans s1 (Nat.le_trans bWc.size hb2.size)
  have s2 := hs2
  clear hs2
  have HO2 := Lib.hid hO2.of_len
  clear hO2 hb2 B1 HF1 S1 s1 cc0 cc1 sWc bWc HFc HAc BWc
  go_wp2_with fail
  go_at_call 68; refine (tightest_to (L := L) (n := frameL.length + hs.length) HE.out (by rw [List.length_append]) HO2.out (by rw [← HN.out, show frameL.length = 4 from rfl]; omega) HK'.out).mono ?_; rintro e w4 ⟨Av, cv, rfl, hO4, hb4⟩
  have B4 := Lib.hid (B2.out.trans (hb4.mono s2))
  have s4 : w.heap.size + 1 ≤ w4.heap.size := Nat.le_trans s2 hb4.size
  have HL := Lib.hid hO4.of_len
  have cR := cell_keep (p := ⟨w.heap.size, 0, none⟩) (v := .slice none 0 0) (B4.out.mono (Nat.le_of_eq (size_1 _ _).symm)) (by first | (go_simp; done) | (simp; done)) (by simp)
  have fR := frozen_keep (p := ⟨w.heap.size, 0, none⟩) (B4.out.mono (Nat.le_of_eq (size_1 _ _).symm)) (by first | (go_simp; done) | (simp; done)) (by simp)
  have S4 : Below w.heap.size w w4 := ((Below.refl _ _).alloc (Nat.le_refl _) _).trans (B4.out.mono (by omega))
  clear hb4 hO4 B2 HO2 s2
  go_wp2_with fail
  go_loopw [17] (fun i wr => ∃ (j : Nat) (M : List Hp) (AO : Option Addr) (cO : Nat), j ≤ L.length ∧ i = .int .i64 j ∧ M.length ≤ j ∧ RowKit.Hid (M = (L.take j).filter (edB L)) ∧ RowKit.Hid (∀ x ∈ L.take j, NoVd x L) ∧ RowKit.Hid (OwnH wr (w4.heap.size + 1) (.slice AO M.length cO) M) ∧ wr.cell? ⟨w4.heap.size, 0, none⟩ = some (.slice AO M.length cO) ∧ wr.frozen? ⟨w4.heap.size, 0, none⟩ = false ∧ w4.heap.size + 1 ≤ wr.heap.size ∧ Below w4.heap.size w4 wr) (fun i _ => L.length - (intOf i).toNat)
  case atStart => exact ⟨0, [], none, 0, Nat.zero_le _, rfl, Nat.le_refl _, rfl, (by intro x hx; simp at hx), World.ownsRow_nil _ _ _ _, by first | (go_simp; done) | (simp; done), by first | (go_simp; done) | (simp; done), by simp, (Below.refl _ _).alloc (Nat.le_refl _) _⟩
  case round =>
    obtain ⟨j, M, AO, cO, hj, rfl, hMj, HM, HVD, HO, p0, z0, hz, hb⟩ := hrel
    have hsz := hb.size
    have cRr := cell_keep (p := ⟨w.heap.size, 0, none⟩) hb cR (by simp; omega)
    have fRr := frozen_keep (p := ⟨w.heap.size, 0, none⟩) hb fR (by simp; omega)
    have hbw : Below w.heap.size w wr := S4.trans (hb.mono (by omega))
    have hzw : w.heap.size < w4.heap.size := by omega
    have hzr : w4.heap.size < wr.heap.size := by omega
    have hzr2 : w.heap.size < wr.heap.size := by omega
    by_cases hlt : j < L.length
    · obtain ⟨bL, oL, rfl, hlb, c0, c1, c2⟩ := (HL.out.below hb).at_ hlt
      have hlb' : bL < wr.heap.size := by omega
      have hget := List.getElem?_eq_getElem hlt
      have hfs := filter_step (p := edB L) hlt
      have hvt := fun hn => Lib.hid (noVd_take hlt rfl HVD.out hn)
      have hmem := List.getElem_mem hlt
      generalize L[j] = h at *
      obtain ⟨h0, h1, h2⟩ := h
      simp only at c0 c1 c2
      have HGt := Lib.hid hget; clear hget
      have hmv := fun hv => Lib.hid (rf_void HGG.out (mk_void HK.out HE.out hmem hv))
      clear hmem
      go_wp2_with fail
      have zw0 := (World.frozen?_alloc_past (w := wr) (.cells #[.int .i64 h0, .int .i64 h1, .int .i64 h2] 57) _ 0 hzr2).trans fRr
      have zw4 := (World.frozen?_alloc_past (w := wr) (.cells #[.int .i64 h0, .int .i64 h1, .int .i64 h2] 57) _ 0 hzr).trans z0
      go_wp2_with fail
      go_at_call 70; with_reducible refine (isEdge_any _ L.length cv j L _ rfl ((HL.out.step hb).step ((Below.refl _ _).alloc (Nat.le_refl _) _)) (by omega) HKL.out (h0, h1, h2) HGt.out HND.out).mono ?_
      rintro e w6 ⟨ed, vd, rfl, hev, hb1⟩
      have hb6 : Below w4.heap.size w4 w6 := (hb.alloc hsz _).trans (hb1.mono (Nat.le_trans hsz (Nat.le_of_lt (new_lt _ _))))
      have HO6 := Lib.hid ((HO.out.kept ((Below.refl _ _).alloc (Nat.le_refl _) _)).kept hb1)
      have cc_w60 := cell_keep (p := ⟨w.heap.size, 0, none⟩) (v := .slice none 0 0) hb1 (by first | assumption | (go_keep; done) | (go_simp; done) | (simp; done)) (by first | omega | (simp <;> omega))
      have cc_w61 := cell_keep (p := ⟨w4.heap.size, 0, none⟩) (v := .slice AO M.length cO) hb1 (by first | assumption | (go_keep; done) | (go_simp; done) | (simp; done)) (by first | omega | (simp <;> omega))
      have cc_w62 := cell_keep (p := ⟨wr.heap.size, 0, none⟩) (v := .int .i64 h0) hb1 (by first | assumption | (go_keep; done) | (go_simp; done) | (simp; done)) (by first | omega | (simp <;> omega))
      have cc_w63 := cell_keep (p := ⟨wr.heap.size, 1, none⟩) (v := .int .i64 h1) hb1 (by first | assumption | (go_keep; done) | (go_simp; done) | (simp; done)) (by first | omega | (simp <;> omega))
      have cc_w64 := cell_keep (p := ⟨wr.heap.size, 2, none⟩) (v := .int .i64 h2) hb1 (by first | assumption | (go_keep; done) | (go_simp; done) | (simp; done)) (by first | omega | (simp <;> omega))
      have cf_w60 := frozen_keep (p := ⟨w.heap.size, 0, none⟩) hb1 (by first | assumption | (go_keep; done) | (go_simp; done) | (simp; done)) (by first | omega | (simp <;> omega))
      have cf_w61 := frozen_keep (p := ⟨w4.heap.size, 0, none⟩) hb1 (by first | assumption | (go_keep; done) | (go_simp; done) | (simp; done)) (by first | omega | (simp <;> omega))
      have hS1_w6 : Below w.heap.size w w6 := S_below hb1 (by repeat (first | exact Below.refl _ _ | assumption | refine below_drewN ?_ _ | refine Below.drew ?_ | refine Below.alloc ?_ (by first | omega | (simp <;> omega)) _ | refine Below.setCell ?_ (by first | omega | (simp <;> omega)) _)) (by first | omega | (simp <;> omega))
      have hz1_w6 : w.heap.size + 1 ≤ w6.heap.size := S_size hb1 (by first | omega | (simp <;> omega))
      have hqb_w60 : w.heap.size < w6.heap.size := S_lt hb1 (by first | omega | (simp <;> omega))
      have hqb_w61 : w4.heap.size < w6.heap.size := S_lt hb1 (by first | omega | (simp <;> omega))
      have hqb_w62 : wr.heap.size < w6.heap.size := S_lt hb1 (by first | omega | (simp <;> omega))
      clear hb1
      have hsz6 := hb6.size
      rcases hev with ⟨rfl, rfl, hv⟩ | ⟨rfl, hnv, hed⟩
      · have HV := hmv hv
        clear hmv hvt hv hfs
        go_wp2_with fail
        exact bodyPost_ret (v := .tuple #[.agg #[.slice none 0 0], .bool true]) (by simp [results, Try.results52, go_sem, set_0 cc_w60]) rfl ⟨none, 0, by rw [HV.out.1, HV.out.2]; rfl, by rw [HV.out.1]; exact World.ownsRow_nil _ _ _ _, (by repeat (first | exact Below.refl _ _ | assumption | refine below_drewN ?_ _ | refine Below.drew ?_ | refine Below.alloc ?_ (by first | omega | (simp <;> omega)) _ | refine Below.setCell ?_ (by first | omega | (simp <;> omega)) _))⟩
      · have HV2 := hvt hnv
        have hed' : ed = edB L (h0, h1, h2) := by rw [Bool.eq_iff_iff, edB_iff]; exact hed
        subst hed'
        clear hmv hvt hnv hed
        cases he : edB L (h0, h1, h2)
        · rw [he] at hfs
          have HF := Lib.hid hfs
          clear hfs he
          go_wp2_with fail
          go_roundw
          case rel => exact ⟨j + 1, M, AO, cO, by omega, by go_num, by omega, (HM.out.trans HF.out.symm : _ = _), HV2, HO6, cc_w61, cf_w61, hqb_w61, hb6⟩
          case measure => simp [intOf]; omega
        · rw [he] at hfs
          have HF := Lib.hid hfs
          clear hfs he
          have HO6a := Lib.hid (HO6.out.kept (w' := w6.alloc (.cells #[.int .i64 h0, .int .i64 h1, .int .i64 h2] 57)) ((Below.refl _ _).alloc (Nat.le_refl _) _))
          have q6 := (World.cell?_alloc_past (w := w6) (.cells #[.int .i64 h0, .int .i64 h1, .int .i64 h2] 57) _ 0 hqb_w61).trans cc_w61
          have y6 := (World.frozen?_alloc_past (w := w6) (.cells #[.int .i64 h0, .int .i64 h1, .int .i64 h2] 57) _ 0 hqb_w61).trans cf_w61
          go_wp2_with (at_builtin; refine wpList_appendH rfl (.tmp 32) (.tmp 34) rfl HO6a.out rfl rfl (M := [(h0, h1, h2)]) rfl (hsAt_new _ _ _ _ _) (by simp; omega) (Nat.le_trans hqb_w61 (Nat.le_of_lt (new_lt _ _))) ?_; intro v7 w7 hap; have p7 := (hap.other (b := w4.heap.size) (Nat.lt_trans hqb_w61 (new_lt _ _)) (HO6a.out.near (Nat.lt_succ_self _))).2 0 _ q6; have y7 := hap.otherF (b := w4.heap.size) (Nat.lt_trans hqb_w61 (new_lt _ _)) (HO6a.out.near (Nat.lt_succ_self _)) y6; have hb7 : Below w4.heap.size w4 w7 := (hb6.alloc hsz6 _).grown hap.2.1 (Nat.le_trans hsz6 (Nat.le_of_lt (new_lt _ _))) (fun q hq => Nat.le_of_succ_le (HO6a.out.low q hq)); have hO7 := Lib.hid hap.1; obtain ⟨g7, c7, rfl, hg7B, hg7⟩ := hap.shape (k := 1) rfl Nat.one_pos; have hz7 : w4.heap.size < w7.heap.size := Nat.lt_trans (Nat.lt_of_succ_le hg7B) hg7; clear hap q6 y6 HO6a)
          go_roundw
          case rel => exact ⟨j + 1, M ++ [(h0, h1, h2)], some ⟨g7, 0, none⟩, c7, by omega, by go_num, by rw [List.length_append]; simp; omega, (by show _ = _; rw [HF.out, ← HM.out]; rfl), HV2, (by have := (hO7.out.setFar (p := ⟨w4.heap.size, 0, none⟩) (hO7.out.near (Nat.lt_succ_self _)) (.slice (some ⟨g7, 0, none⟩) (M.length + 1) c7)); rw [List.length_append]; exact this), by rw [List.length_append]; exact set_0 p7 _, by simpa using y7, by simp; omega, (by repeat (first | exact Below.refl _ _ | assumption | refine below_drewN ?_ _ | refine Below.drew ?_ | refine Below.alloc ?_ (by first | omega | (simp <;> omega)) _ | refine Below.setCell ?_ (by first | omega | (simp <;> omega)) _))⟩
          case measure => simp [intOf]; omega
    · have hMf : M = L.filter (edB L) := by rw [HM.out, List.take_of_length_le (by omega)]
      have hmk : mkR hs = M := by rw [hMf]; exact mk_edge HK.out HE.out (fun x hx => HVD.out x (by rw [List.take_of_length_le (by omega)]; exact hx))
      clear hMf
      by_cases h40 : 40 < M.length
      · have HV := Lib.hid (rf_many (hs := hs) (by rw [hmk]; exact h40))
        clear hmk
        go_wp2_with fail
        exact bodyPost_ret (v := .tuple #[.agg #[.slice none 0 0], .bool false]) (by simp [results, Try.results52, go_sem, set_0 cRr]) rfl ⟨none, 0, by rw [HV.out.1, HV.out.2]; rfl, by rw [HV.out.1]; exact World.ownsRow_nil _ _ _ _, (by repeat (first | exact Below.refl _ _ | assumption | refine below_drewN ?_ _ | refine Below.drew ?_ | refine Below.alloc ?_ (by first | omega | (simp <;> omega)) _ | refine Below.setCell ?_ (by first | omega | (simp <;> omega)) _))⟩
      · have HV := Lib.hid (rf_fit HGG.out (by rw [hmk]; exact h40))
        rw [hmk] at HV
        have hfar := HO.out.near (b := w.heap.size) (by omega)
        have HOf := Lib.hid (((HO.out.setFar (p := ⟨w.heap.size, 0, none⟩) hfar (.slice AO M.length cO)).wide (B' := w.heap.size) (by omega)))
        clear hmk hfar
        go_wp2_with fail
        exact bodyPost_ret (v := .tuple #[.agg #[.slice AO M.length cO], .bool true]) (by simp [results, Try.results52, go_sem, set_0 cRr]) rfl ⟨AO, cO, by rw [HV.out.1, HV.out.2], by rw [HV.out.1]; exact HOf.out, (by repeat (first | exact Below.refl _ _ | assumption | refine below_drewN ?_ _ | refine Below.drew ?_ | refine Below.alloc ?_ (by first | omega | (simp <;> omega)) _ | refine Below.setCell ?_ (by first | omega | (simp <;> omega)) _))⟩

end Go.Proofs.Ythdaoadleeelnaa
