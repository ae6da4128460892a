/- SplitLines: the walks. -/
import Derived.Test.YtkcalnahiabejaaDoorLns
namespace Go.Proofs.YtkcalnahiabejaaDoor
open Go.ChangeShapes Go.WideShapes Go.ChangeAt Go.RowKit
attribute [local go_sem ↓] Go.wp_at_zero Go.wp_at_succ
set_option linter.unusedVariables false

def MaxI (w : World) : Prop := ∃ m, w.cell? ⟨2, 0, none⟩ = some (.int .i64 m)

theorem cell_lt' {w : World} {b o : Nat} {v : Value} (h : w.cell? ⟨b, o, none⟩ = some v) : b < w.heap.size := by
  rcases Nat.lt_or_ge b w.heap.size with h' | h'
  · exact h'
  · simp [World.cell?, Array.getElem?_eq_none h'] at h

theorem MaxI.step {w w' : World} (h : MaxI w) (hb : Below w.heap.size w w') : MaxI w' := by
  obtain ⟨m, h⟩ := h
  exact ⟨m, cell_keep hb h (cell_lt' h)⟩

theorem MaxI.of_shape {w : World} (h : w.ShapedOpen Tryd.prog) : MaxI w := Tryd.laysM146.s1_3 w h

theorem str_nonempty {x : ByteArray} (h : ¬ x = ByteArray.empty) : x.toList.isEmpty = false := by
  rw [ByteArray.toList_eq]
  cases hx : x.data.toList with
  | nil => exact absurd (ByteArray.ext (Array.ext' hx)) h
  | cons a l => rfl

theorem pcs_len (p : UInt8 → Bool) : ∀ (l cur : List UInt8), (pcs p cur l).length = l.countP p + 1
  | [], cur => by simp [pcs]
  | c :: r, cur => by
    rw [pcs, List.countP_cons]
    cases hc : p c
    · simp [pcs_len p r]
    · simp [pcs_len p r]

theorem split_own (s : ByteArray) (w : World) (hs : s.size ≤ 1048576) :
    OwnS (w.alloc (.cells ((Lib.splitB nlB 0 (Lib.countB s nlB) s).map Value.string).toArray 9)) w.heap.size (.slice (some ⟨w.heap.size, 0, none⟩) (Lib.countB s nlB + 1) (Lib.countB s nlB + 1)) (pcsB s nlB) ∧ Lib.countB s nlB + 1 = (pcsB s nlB).length := by
  have hn : Lib.countB s nlB + 1 = (pcsB s nlB).length := by
    unfold pcsB
    rw [List.length_map, pcs_len, amg_nl, show Lib.countB s nlB = s.data.toList.count 10 from Lib.count_one 10 _]
    rfl
  refine ⟨?_, hn⟩
  rw [split_pcsB, hn]
  unfold OwnS
  have hl := pcsB_len s nlB
  have := World.ownsRow_lit (base := w.heap.size) (e := 9) (size := 1) w ((pcsB s nlB).map Value.string).toArray (pcsB s nlB).length (Nat.le_refl _) (by unfold maxLen; omega) (by simp)
  simpa [strV] using this

set_option maxHeartbeats 1000000 in
set_option maxRecDepth 100000 in
theorem iSplitLines_any (s : ByteArray) (w : World) (hm : MaxI w) (hs : s.size ≤ 1048576) :
    Calls Tryd.prog 8 #[.string s] w (MadeS (linesB s) w) := by
  have hl := pcsB_len s nlB
  have hne : pcsB s nlB ≠ [] := by unfold pcsB; simpa using pcs_ne _ _ _
  obtain ⟨ls, hls⟩ : ∃ ls, pcsB s nlB = ls := ⟨_, rfl⟩
  have HLN := Lib.hid (show linesB s = linesL ls by unfold linesB; rw [hls])
  rw [hls] at hl hne
  have HLS := Lib.hid hls
  clear hls
  obtain ⟨k, hk⟩ : ∃ k, ls.length = k + 1 := ⟨ls.length - 1, by have := List.length_pos_iff.2 hne; omega⟩
  have hkl : k < ls.length := by omega
  have HG := Lib.hid (show ls.getLast? = some ls[k] by rw [List.getLast?_eq_getElem?, hk]; exact List.getElem?_eq_getElem hkl)
  obtain ⟨x, hx⟩ : ∃ x, ls[k] = x := ⟨_, rfl⟩
  have HX := Lib.hid hx
  obtain ⟨mm, hm⟩ := hm
  have HM := Lib.hid hm; clear hm
  go_enter Tryd.func8, Tryd.ntmps8
  go_wp2_with fail
  go_at_call 22; refine (Tryd.strings_Split s nlB mm w (by omega) HM.out (by decide)).mono ?_; rintro e w1 ⟨rfl, rfl⟩
  obtain ⟨hO, hcn⟩ := split_own s w hs
  rw [HLS.out] at hO hcn
  rw [hcn] at hO ⊢
  have hB : Below w.heap.size w (w.alloc (.cells ((Lib.splitB nlB 0 (Lib.countB s nlB) s).map Value.string).toArray 9)) := (Below.refl _ _).alloc (Nat.le_refl _) _
  have hgB : w.heap.size ≤ w.heap.size := Nat.le_refl _
  generalize w.alloc (.cells ((Lib.splitB nlB 0 (Lib.countB s nlB) s).map Value.string).toArray 9) = w1 at *
  have hO' := hO
  unfold OwnS at hO'
  have c0 := (hO'.cellAt k (by omega)).trans (strV_get (List.getElem?_eq_getElem hkl))
  rw [hx] at c0
  have HO := Lib.hid hO
  clear hO hO'
  rw [hk] at HO ⊢
  by_cases hxe : x = ByteArray.empty
  · subst hxe
    have HD := Lib.hid (show linesB s = ls.dropLast by rw [HLN.out]; unfold linesL; rw [if_pos (by rw [HG.out, HX.out])])
    go_wp2_with fail
    go_ret
    have hO2 := HO.out.drop (by omega)
    rw [HD.out]
    exact ⟨_, _, by rw [List.length_dropLast, hk]; rfl, by rw [List.length_dropLast, hk]; exact hO2, hgB, hB⟩
  · have HD := Lib.hid (show linesB s = ls by rw [HLN.out]; unfold linesL; rw [if_neg (by rw [HG.out, HX.out]; simpa using hxe)])
    have hE : x.toList.isEmpty = false := str_nonempty hxe
    go_wp2_with fail
    go_ret
    rw [HD.out]
    exact ⟨_, _, by rw [hk]; rfl, by rw [hk]; exact HO.out, hgB, hB⟩

set_option maxHeartbeats 1000000 in
set_option maxRecDepth 100000 in
theorem sSplitLines_any (s : ByteArray) (w : World) (hs : s.size ≤ 1048576) :
    Calls Tryd.prog 7 #[.string s] w (MadeS (linesB s) w) := by
  have hl := pcsB_len s nlB
  have hne : pcsB s nlB ≠ [] := by unfold pcsB; simpa using pcs_ne _ _ _
  obtain ⟨ls, hls⟩ : ∃ ls, pcsB s nlB = ls := ⟨_, rfl⟩
  have HLN := Lib.hid (show linesB s = linesL ls by unfold linesB; rw [hls])
  rw [hls] at hl hne
  have HLS := Lib.hid hls
  clear hls
  obtain ⟨k, hk⟩ : ∃ k, ls.length = k + 1 := ⟨ls.length - 1, by have := List.length_pos_iff.2 hne; omega⟩
  have hkl : k < ls.length := by omega
  have HG := Lib.hid (show ls.getLast? = some ls[k] by rw [List.getLast?_eq_getElem?, hk]; exact List.getElem?_eq_getElem hkl)
  obtain ⟨x, hx⟩ : ∃ x, ls[k] = x := ⟨_, rfl⟩
  have HX := Lib.hid hx
  go_enter Tryd.func7, Tryd.ntmps7
  go_wp2_with fail
  go_at_call 21; refine (sSplitAny_lit HLS.out w hs (by decide)).mono ?_; rintro e w1 ⟨g, c, rfl, hO, hgB, hB⟩
  have hO' := hO
  unfold OwnS at hO'
  have c0 := (hO'.cellAt k (by omega)).trans (strV_get (List.getElem?_eq_getElem hkl))
  rw [hx] at c0
  have hcap : ls.length ≤ c := by
    rcases hO.shape with ⟨e, _⟩ | ⟨g', c', e, _, _, hc⟩
    · injection e with e; cases e
    · injection e with _ _ e3; omega
  have HO := Lib.hid hO
  clear hO hO'
  rw [hk] at HO ⊢
  by_cases hxe : x = ByteArray.empty
  · subst hxe
    have HD := Lib.hid (show linesB s = ls.dropLast by rw [HLN.out]; unfold linesL; rw [if_pos (by rw [HG.out, HX.out])])
    go_wp2_with fail
    go_ret
    have hO2 := HO.out.drop (by omega)
    rw [HD.out]
    exact ⟨_, _, by rw [List.length_dropLast, hk]; rfl, by rw [List.length_dropLast, hk]; exact hO2, hgB, hB⟩
  · have HD := Lib.hid (show linesB s = ls by rw [HLN.out]; unfold linesL; rw [if_neg (by rw [HG.out, HX.out]; simpa using hxe)])
    have hE : x.toList.isEmpty = false := str_nonempty hxe
    go_wp2_with fail
    go_ret
    rw [HD.out]
    exact ⟨_, _, by rw [hk]; rfl, by rw [hk]; exact HO.out, hgB, hB⟩

end Go.Proofs.YtkcalnahiabejaaDoor
