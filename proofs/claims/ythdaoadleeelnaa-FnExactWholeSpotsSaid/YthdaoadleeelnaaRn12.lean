/- l05Make of the reference: the region of half planes. -/
import Derived.Test.YthdaoadleeelnaaRn10
import Derived.Test.YthdaoadleeelnaaRn11
namespace Go.Proofs.Ythdaoadleeelnaa
open Go.ChangeShapes Go.WideShapes Go.ChangeAt Go.RowKit
attribute [local go_sem ↓] Go.wp_at_zero Go.wp_at_succ
set_option linter.unusedVariables false

/-- l05IsEdge's answer. -/
def edI (L : List Hp) (h : Hp) : Bool := L.any fun g => L.any fun g' => ptIn L h g && (ptIn L h g' && !decide (samePt h g g'))

theorem edI_iff (L : List Hp) (h : Hp) : edI L h = true ↔ EdgeI L h := by
  unfold edI EdgeI
  simp

theorem edI_eq {L : List Hp} {h : Hp} {v : Bool} (hv : v = true ↔ EdgeI L h) : v = edI L h := by
  rw [Bool.eq_iff_iff, edI_iff]; exact hv
/-- l05Make's result. -/
def mkR (hs : List Hp) : List Hp := if ((sortH (hs ++ frameL)).filter (edI (sortH (hs ++ frameL)))).length < 3 then [] else (sortH (hs ++ frameL)).filter (edI (sortH (hs ++ frameL)))

theorem mkR_few {hs L : List Hp} (hL : L = sortH (hs ++ frameL)) (h : (L.filter (edI L)).length < 3) : mkR hs = [] := by subst hL; unfold mkR; rw [if_pos h]

theorem mkR_many {hs L : List Hp} (hL : L = sortH (hs ++ frameL)) (h : ¬ (L.filter (edI L)).length < 3) : mkR hs = L.filter (edI L) := by subst hL; unfold mkR; rw [if_neg h]

theorem filter_step {L : List Hp} {p : Hp → Bool} {k : Nat} (hk : k < L.length) : (L.take (k + 1)).filter p = if p L[k] then (L.take k).filter p ++ [L[k]] else (L.take k).filter p := by
  rw [List.take_succ_eq_append_getElem hk, List.filter_append]
  cases h : p L[k] <;> simp [h]

theorem frame_ok : ∀ x ∈ frameL, okH x = true := by
  intro x hx
  simp only [frameL, List.mem_cons, List.not_mem_nil, or_false] at hx
  rcases hx with rfl | rfl | rfl | rfl <;> decide

theorem sortH_len (xs : List Hp) : (sortH xs).length ≤ xs.length := by
  suffices h : ∀ (xs l : List Hp), (xs.foldl insH l).length ≤ l.length + xs.length by
    have := h xs []
    rw [List.length_nil, Nat.zero_add] at this; exact this
  intro xs
  induction xs with
  | nil => intro l; simp
  | cons x xs ih => intro l; have := ih (insH l x); have := insH_len l x; simp only [List.foldl_cons, List.length_cons]; omega

theorem sortH_ok {xs : List Hp} (h : ∀ x ∈ xs, okH x = true) : ∀ x ∈ sortH xs, okH x = true := fun x hx => h x (sortH_mem hx)

theorem sFrame_any (w : World) : Calls Try.prog 12 #[] w fun e w' => ∃ g c, e = .returned (.slice (some ⟨g, 0, none⟩) frameL.length c) ∧ HsAt w' w'.heap.size (some ⟨g, 0, none⟩) frameL ∧ Below w.heap.size w w' :=
  (sFrameHalves_any w).mono fun e w' ⟨g, c, h1, h2, _, h4⟩ => ⟨g, c, h1, h2.of_len, h4⟩

theorem size_1 (w : World) (o : Obj) : w.heap.size + 1 = (w.alloc o).heap.size := by rw [World.size_alloc]

theorem le_size_1 (w : World) (o : Obj) : w.heap.size + 1 ≤ (w.alloc o).heap.size := by rw [World.size_alloc]; exact Nat.le_refl _

theorem le_size_2 (w : World) (o o' : Obj) : w.heap.size + 1 ≤ ((w.alloc o).alloc o').heap.size := by rw [World.size_alloc, World.size_alloc]; omega

theorem own_empty {W : World} {B g : Nat} (hg : g = W.heap.size) (hB : B ≤ W.heap.size) : OwnH (W.alloc (.cells #[] 57)) B (.slice (some ⟨g, 0, none⟩) 0 0) [] := by
  subst hg; exact World.ownsRow_lit W #[] 0 hB (by unfold maxLen; omega) rfl

theorem OwnH.setFar {w : World} {B : Nat} {v : Value} {hs : List Hp} (h : OwnH w B v hs) {p : Addr} (hp : v.ownBlock ≠ some p.block) (u : Value) : OwnH (w.setCell p u) B v hs :=
  World.ownsRow.kept h (row := some p.block) ⟨rfl, rfl, rfl, by simp, fun k _ hk => Below.heap_setCell w p u k (fun e => hk (by rw [e]))⟩ (.inr hp)

theorem OwnH.near {w : World} {B b : Nat} {v : Value} {hs : List Hp} (h : OwnH w B v hs) (hb : b < B) : v.ownBlock ≠ some b := fun e => by
  have := h.low _ e; omega

theorem OwnH.wide {w : World} {B B' : Nat} {v : Value} {hs : List Hp} (h : OwnH w B v hs) (hB : B' ≤ B) : OwnH w B' v hs := h.less hB

theorem l05Sorted_to {A : Option Addr} {n c : Nat} {hs L : List Hp} {w : World} (hL : sortH hs = L) (hn : n = hs.length) (hA : HsAt w w.heap.size A hs) (hm : n ≤ 1048576) (hok : ∀ h ∈ hs, okH h = true) :
    Calls Try.prog 65 #[.slice A n c] w fun e w' => ∃ Av cv, e = .returned (.slice Av L.length cv) ∧ OwnH w' w.heap.size (.slice Av L.length cv) L ∧ Below w.heap.size w w' := by
  subst hL
  refine (l05Sorted_any A n c hs w hn hA hm hok).mono ?_
  rintro e w' ⟨v, rfl, h1, h2⟩
  obtain ⟨Av, cv, rfl⟩ := h1.form
  exact ⟨Av, cv, rfl, h1, h2⟩

set_option maxHeartbeats 1000000 in
set_option maxRecDepth 100000 in
theorem l05Make_any (A : Option Addr) (n c : Nat) (hs : List Hp) (w : World) (hn : n = hs.length) (hA : HsAt w w.heap.size A hs) (hm : n ≤ 1000000) (hok : ∀ h ∈ hs, okH h = true) :
    Calls Try.prog 46 #[.slice A n c] w fun e w' => ∃ v, e = .returned (.agg #[v]) ∧ OwnH w' w.heap.size v (mkR hs) ∧ Below w.heap.size w w' := by
  have HA := Lib.hid hA; clear hA
  have HN := Lib.hid hn; clear hn
  have HK := Lib.hid hok; clear hok
  go_enter Try.func46, Try.ntmps46
  go_wp2_with (at_builtin; refine wpList_appendH rfl (.tmp 7) (.tmp 8) rfl (own_empty (B := w.heap.size + 1) (W := w.alloc (.cells #[.slice none 0 0] 33)) (g := w.heap.size + 1) (size_1 _ _) (le_size_1 _ _)) rfl rfl (M := hs) HN.out (HA.out.step (((Below.refl _ _).alloc (Nat.le_refl _) _).alloc (Nat.le_of_lt (new_lt _ _)) _)) (by rw [← HN.out]; simp; omega) (le_size_2 _ _ _) ?_; intro v1 w1 hap)
  have hE := own_empty (B := w.heap.size + 1) (W := w.alloc (.cells #[.slice none 0 0] 33)) (g := w.heap.size + 1) (size_1 _ _) (le_size_1 _ _)
  have B1 : Below (w.heap.size + 1) (w.alloc (.cells #[.slice none 0 0] 33)) w1 := hap.below hE ((Below.refl _ _).alloc (le_size_1 _ _) _) (le_size_2 _ _ _)
  have O1 : OwnH w1 (w.heap.size + 1) v1 hs := hap.1
  have s1 : w.heap.size + 1 ≤ w1.heap.size := Nat.le_trans (le_size_1 _ _) B1.size
  have O1 := Lib.hid O1
  have B1 := Lib.hid B1
  clear hap hE
  go_at_call 12; refine (sFrame_any w1).mono ?_; rintro e w2 ⟨g2, c2, rfl, hF2, hb2⟩
  have O2 := Lib.hid (O1.out.kept hb2)
  have B2 := Lib.hid (B1.out.trans (hb2.mono s1))
  have s2 : w.heap.size + 1 ≤ w2.heap.size := Nat.le_trans s1 hb2.size
  have HF2 := Lib.hid hF2
  clear O1 B1 s1 hb2 hF2
  go_wp2_with (at_builtin; refine wpList_appendH rfl (.tmp 9) (.tmp 10) rfl O2.out rfl rfl (M := frameL) rfl HF2.out (by rw [← HN.out]; show n + 4 ≤ _; omega) s2 ?_; intro v3 w3 hap; obtain ⟨g3, c3, rfl, hg3B, hg3⟩ := hap.shape (k := 4) rfl (by decide))
  have B3 := Lib.hid (hap.below O2.out B2.out s2)
  have O3 := Lib.hid hap.1
  have s3 : w.heap.size + 1 ≤ w3.heap.size := Nat.le_trans s2 hap.2.1.size
  have hk3 : ∀ x ∈ hs ++ frameL, okH x = true := fun x hx => by
    rcases List.mem_append.1 hx with h | h
    · exact HK.out x h
    · exact frame_ok x h
  have HK3 := Lib.hid hk3
  clear hap O2 B2 s2 HF2 hk3
  obtain ⟨L, hL⟩ : ∃ L, sortH (hs ++ frameL) = L := ⟨_, rfl⟩
  have HE := Lib.hid hL
  clear hL
  go_at_call 65; refine (l05Sorted_to (L := L) HE.out (by simp [frameL]) O3.out.reads.2 (by rw [← HN.out]; omega) HK3.out).mono ?_; rintro e w4 ⟨Av, cv, rfl, hO4, hb4⟩
  have B4 := Lib.hid (B3.out.trans (hb4.mono s3))
  have s4 : w.heap.size + 1 ≤ w4.heap.size := Nat.le_trans s3 hb4.size
  have HL := Lib.hid hO4.of_len
  have hkL := sortH_ok HK3.out
  have hlL := sortH_len (hs ++ frameL)
  rw [HE.out] at hkL hlL
  have HKL := Lib.hid hkL
  have hn4 : L.length ≤ 1000004 := by rw [List.length_append, ← HN.out] at hlL; simp [frameL] at hlL; omega
  have cR := cell_keep (p := ⟨w.heap.size, 0, none⟩) (v := .slice none 0 0) (B4.out.mono (Nat.le_of_eq (size_1 _ _).symm)) (by first | (go_simp; done) | (simp; done)) (by simp)
  have fR := frozen_keep (p := ⟨w.heap.size, 0, none⟩) (B4.out.mono (Nat.le_of_eq (size_1 _ _).symm)) (by first | (go_simp; done) | (simp; done)) (by simp)
  have S4 : Below w.heap.size w w4 := ((Below.refl _ _).alloc (Nat.le_refl _) _).trans (B4.out.mono (by omega))
  clear hkL hlL hb4 hO4 O3 B3 HK3 s3
  have hE := own_empty (B := w4.heap.size) (W := w4) (g := w4.heap.size) rfl (Nat.le_refl _)
  have HOE := Lib.hid hE
  clear hE
  go_wp2_with fail
  go_loopw [4, 16] (fun v i wr => ∃ (j : Nat) (M : List Hp) (AO : Option Addr) (cO : Nat), j ≤ L.length ∧ i = .int .i64 j ∧ v = .slice AO M.length cO ∧ M.length ≤ j ∧ RowKit.Hid (M = (L.take j).filter (edI L)) ∧ RowKit.Hid (OwnH wr w4.heap.size (.slice AO M.length cO) M) ∧ Below w4.heap.size w4 wr) (fun _ i _ => L.length - (intOf i).toNat)
  case atStart => exact ⟨0, [], _, _, Nat.zero_le _, rfl, rfl, Nat.le_refl _, rfl, HOE.out, (Below.refl _ _).alloc (Nat.le_refl _) _⟩
  case round =>
    obtain ⟨j, M, AO, cO, hj, rfl, rfl, hMj, HM, HO, hb⟩ := hrel
    have hsz := hb.size
    by_cases hlt : j < L.length
    · obtain ⟨bL, oL, rfl, hlb, c0, c1, c2⟩ := (HL.out.below hb).at_ hlt
      have hlb' : bL < wr.heap.size := by omega
      have hget := List.getElem?_eq_getElem hlt
      have hfs := filter_step (p := edI L) hlt
      generalize L[j] = h at *
      obtain ⟨h0, h1, h2⟩ := h
      simp only at c0 c1 c2
      have HG := Lib.hid hget; clear hget
      have hbw : Below w.heap.size w wr := S4.trans (hb.mono (by omega))
      go_wp2_with fail
      go_at_call 66; with_reducible refine (l05IsEdge_any _ L.length cv j L _ rfl ((HL.out.step hb).step ((Below.refl _ _).alloc (Nat.le_refl _) _)) (by omega) HKL.out (h0, h1, h2) HG.out).mono ?_
      rintro e w6 ⟨v, rfl, hv, hb1⟩
      have hb6 : Below w4.heap.size w4 w6 := (hb.alloc hsz _).trans (hb1.mono (Nat.le_trans hsz (Nat.le_of_lt (new_lt _ _))))
      have HO6 := Lib.hid ((HO.out.kept ((Below.refl _ _).alloc (Nat.le_refl _) _)).kept hb1)
      have cc_w60 := cell_keep (p := ⟨wr.heap.size, 0, none⟩) (v := .int .i64 h0) hb1 (by first | assumption | (go_keep; done) | (go_simp; done) | (simp; done)) (by first | omega | (simp <;> omega))
      have cc_w61 := cell_keep (p := ⟨wr.heap.size, 1, none⟩) (v := .int .i64 h1) hb1 (by first | assumption | (go_keep; done) | (go_simp; done) | (simp; done)) (by first | omega | (simp <;> omega))
      have cc_w62 := cell_keep (p := ⟨wr.heap.size, 2, none⟩) (v := .int .i64 h2) hb1 (by first | assumption | (go_keep; done) | (go_simp; done) | (simp; done)) (by first | omega | (simp <;> omega))
      have hS1_w6 : Below w.heap.size w w6 := S_below hb1 (by repeat (first | exact Below.refl _ _ | assumption | refine below_drewN ?_ _ | refine Below.drew ?_ | refine Below.alloc ?_ (by first | omega | (simp <;> omega)) _ | refine Below.setCell ?_ (by first | omega | (simp <;> omega)) _)) (by first | omega | (simp <;> omega))
      have hz1_w6 : w.heap.size + 1 ≤ w6.heap.size := S_size hb1 (by first | omega | (simp <;> omega))
      have hqb_w60 : wr.heap.size < w6.heap.size := S_lt hb1 (by first | omega | (simp <;> omega))
      clear hb1
      have hsz6 := hb6.size
      cases (edI_eq hv).symm
      clear hv
      cases he : edI L (h0, h1, h2)
      · rw [he] at hfs
        have HF := Lib.hid hfs
        clear hfs he
        go_wp2_with fail
        go_roundw
        case rel => exact ⟨j + 1, M, AO, cO, by omega, by go_num, rfl, by omega, (HM.out.trans HF.out.symm : _ = _), HO6, hb6⟩
        case measure => simp [intOf]; omega
      · rw [he] at hfs
        have HF := Lib.hid hfs
        clear hfs he
        go_wp2_with (at_builtin; refine wpList_appendH rfl (.tmp 24) (.tmp 26) rfl (HO6.out.kept ((Below.refl _ _).alloc (Nat.le_refl _) _)) rfl rfl (M := [(h0, h1, h2)]) rfl (hsAt_new _ _ _ _ _) (by simp; omega) (Nat.le_trans hsz6 (Nat.le_of_lt (new_lt _ _))) ?_; intro v7 w7 hap; obtain ⟨g7, c7, rfl, hg7B, hg7⟩ := hap.shape (k := 1) rfl Nat.one_pos)
        have B7 := Lib.hid (hap.below (HO6.out.kept ((Below.refl _ _).alloc (Nat.le_refl _) _)) (hb6.alloc hsz6 _) (Nat.le_trans hsz6 (Nat.le_of_lt (new_lt _ _))))
        have O7 := Lib.hid hap.1
        clear hap
        go_roundw
        case rel => exact ⟨j + 1, M ++ [(h0, h1, h2)], some ⟨g7, 0, none⟩, c7, by omega, by go_num, by rw [List.length_append]; rfl, by rw [List.length_append]; simp; omega, (by show _ = _; rw [HF.out, ← HM.out]; rfl), (by have := O7.out; rw [List.length_append]; exact this), B7.out⟩
        case measure => simp [intOf]; omega
    · have cRr := cell_keep (p := ⟨w.heap.size, 0, none⟩) hb cR (by simp; omega)
      have fRr := frozen_keep (p := ⟨w.heap.size, 0, none⟩) hb fR (by simp; omega)
      have hbw : Below w.heap.size w wr := S4.trans (hb.mono (by omega))
      have hMf : M = L.filter (edI L) := by rw [HM.out, List.take_of_length_le (by omega)]
      by_cases h3 : M.length < 3
      · have HV := Lib.hid (mkR_few HE.out.symm (by rw [← hMf]; exact h3))
        clear hMf
        go_wp2_with fail
        exact bodyPost_ret (v := .agg #[.slice none 0 0]) (by simp [results, Try.results46, go_sem, set_0 cRr]) rfl ⟨.slice none 0 0, rfl, by rw [HV.out]; exact World.ownsRow_nil _ _ _ _, (by repeat (first | exact Below.refl _ _ | assumption | refine below_drewN ?_ _ | refine Below.drew ?_ | refine Below.alloc ?_ (by first | omega | (simp <;> omega)) _ | refine Below.setCell ?_ (by first | omega | (simp <;> omega)) _))⟩
      · have HV := Lib.hid ((mkR_many HE.out.symm (by rw [← hMf]; exact h3)).trans hMf.symm)
        have hfar := HO.out.near (b := w.heap.size) (by omega)
        have HOf := Lib.hid (((HO.out.setFar (p := ⟨w.heap.size, 0, none⟩) hfar (.slice AO M.length cO)).wide (B' := w.heap.size) (by omega)))
        clear hMf hfar
        go_wp2_with fail
        exact bodyPost_ret (v := .agg #[.slice AO M.length cO]) (by simp [results, Try.results46, go_sem, set_0 cRr]) rfl ⟨.slice AO M.length cO, rfl, by rw [HV.out]; exact HOf.out, (by repeat (first | exact Below.refl _ _ | assumption | refine below_drewN ?_ _ | refine Below.drew ?_ | refine Below.alloc ?_ (by first | omega | (simp <;> omega)) _ | refine Below.setCell ?_ (by first | omega | (simp <;> omega)) _))⟩

end Go.Proofs.Ythdaoadleeelnaa
