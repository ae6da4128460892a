/- SplitAny, of the program and of the reference. -/
import Derived.Test.YtkmfejdmdiemaaaDoorStrs3
import Derived.Test.YtkmfejdmdiemaaaDoorShelf
namespace Go.Proofs.YtkmfejdmdiemaaaDoor
open Go.ChangeShapes Go.WideShapes Go.ChangeAt Go.RowKit
attribute [local go_sem ↓] Go.wp_at_zero Go.wp_at_succ
set_option linter.unusedVariables false

theorem infoS : (Tryd.prog.info? 9).map (fun i => (i.zero, i.size, i.bytes)) = some (some (.string ByteArray.empty), 1, 16) := by kernel_rfl

def pcsB (s by_ : ByteArray) : List ByteArray := (pcs (amg by_) [] s.data.toList).map bs

theorem index_ge {b : ByteArray} {c : UInt8} (h : amg b c = true) : 0 ≤ Lib.indexByte b.data.toList c := by
  rw [amg_index] at h
  simpa using h

theorem index_lt {b : ByteArray} {c : UInt8} (h : amg b c = false) : ¬ 0 ≤ Lib.indexByte b.data.toList c := by
  rw [amg_index] at h
  simpa using h

theorem news_one (w : World) (v : Value) (t : TypeId) : ∀ (j : Nat) (u : Value), [v][j]? = some u → (w.alloc (.cells #[v] t)).cell? ((⟨w.heap.size, 0, none⟩ : Addr).add j) = some u := by
  intro j u hu
  match j with
  | 0 =>
    simp at hu; subst hu
    show (w.alloc (.cells #[v] t)).cell? ⟨w.heap.size, 0, none⟩ = _
    rw [World.cell?_alloc_new]; rfl
  | j + 1 => simp at hu

theorem made_last {w : World} {B st : Nat} {v : Value} {s by_ : ByteArray} {dn : List (List UInt8)} (h : w.ownsRow B 9 1 v (dn.length + 1) (strV (dn.map bs) ++ [.string (s.extract st s.size)])) (he : dn ++ [(s.data.toList.drop st).take (s.size - st)] = pcs (amg by_) [] s.data.toList) : OwnS w B v (pcsB s by_) := by
  unfold OwnS pcsB
  rw [← he, List.length_map, List.length_append, List.map_append]
  simpa [strV, bs_extract] using h

theorem ownS_form {w : World} {B : Nat} {v : Value} {ls : List ByteArray} (h : OwnS w B v ls) (hne : ls ≠ []) : ∃ g c, v = .slice (some ⟨g, 0, none⟩) ls.length c ∧ B ≤ g := by
  rcases h.shape with ⟨_, e⟩ | ⟨g, c, e, hb, _⟩
  · exact absurd e hne
  · exact ⟨g, c, e, hb⟩

set_option maxHeartbeats 1000000 in
set_option maxRecDepth 100000 in
theorem iSplitAny_any (s by_ : ByteArray) (w : World) (hs : s.size ≤ 1048576) (hb : by_.size ≤ 1048576) :
    Calls Tryd.prog 43 #[.string s, .string by_] w (MadeS (pcsB s by_) w) := by
  obtain ⟨i0, hi0, hz0, hz1, hz2⟩ := info_parts infoS
  go_enter Tryd.func43, Tryd.ntmps43
  go_wp2_with fail
  go_loopw [5, 6, 7] (fun o f i wr => ∃ (k st : Nat) (done : List (List UInt8)), i = .int .i64 k ∧ f = .int .i64 st ∧ k ≤ s.size ∧ st ≤ k ∧ RowKit.Hid (PcsAt (amg by_) s k st done) ∧ RowKit.Hid (OwnS wr w.heap.size o (done.map bs)) ∧ Below w.heap.size w wr) (fun _ _ i _ => s.size - (intOf i).toNat)
  case atStart => exact ⟨0, 0, [], rfl, rfl, Nat.zero_le _, Nat.le_refl _, pcsAt_zero _ _, World.ownsRow_nil _ _ _ _, Below.refl _ _⟩
  case round =>
    obtain ⟨k, st, dn, rfl, rfl, hk, hst, HP, HO, hbw⟩ := hrel
    have hsz := hbw.size
    by_cases hlt : k < s.size
    · cases ha : amg by_ s[k]
      · have HS := Lib.hid (pcsAt_on HP.out hlt ha)
        have hix := index_lt ha
        go_wp2_with (go_at_call 64; refine (Tryd.strings_IndexByte _ _ _).mono ?_; rintro e w1 ⟨rfl, rfl⟩)
        go_roundw
        case rel => exact ⟨k + 1, st, dn, by go_num, rfl, by omega, by omega, HS, HO, hbw⟩
        case measure => simp [intOf]; omega
      · have HS := Lib.hid (pcsAt_cut HP.out hlt ha)
        have hix := index_ge ha
        have hdl := HP.out.2.2.1
        have hown := HO.out
        unfold OwnS at hown
        rw [List.length_map] at hown
        go_wp2_with (first
          | (go_at_call 64; refine (Tryd.strings_IndexByte _ _ _).mono ?_; rintro e w1 ⟨rfl, hw1⟩; subst hw1)
          | (at_builtin; refine wpList_append_own _ rfl (.tmp 20) (.tmp 25) 56 rfl w.heap.size 9 i0 (.string ByteArray.empty) 1 16 Tryd.underlying56 hi0 hz0 hz1 hz2 rfl (by decide) _ _ _ rfl (hown.alloc _) ⟨_, 0, none⟩ 1 1 [.string (s.extract st k)] rfl rfl ?c1 ?c2 ?c3 ?c4 ?c5 ?_))
        case c1 => exact news_one _ _ _
        case c2 => intro u hu; rw [List.mem_singleton] at hu; subst hu; rfl
        case c3 => unfold maxLen; omega
        case c4 => omega
        case c5 => simp; omega
        intro v2 w2 hown2 hgrow2 _
        go_wp2
        go_roundw
        case rel =>
          refine ⟨k + 1, k + 1, dn ++ [(s.data.toList.drop st).take (k - st)], by go_num, by go_num, by omega, by omega, HS, ?_, ?_⟩
          · unfold RowKit.Hid OwnS
            rw [List.length_map, List.length_append, List.map_append]
            simpa [strV, bs_extract] using hown2
          · exact (hbw.alloc hsz _).grown hgrow2 (by simp; omega) (fun q hq => (World.ownsRow.lt hown q hq).1)
        case measure => simp [intOf]; omega
    · have HE := Lib.hid (pcsAt_end HP.out hlt)
      have hdl := HP.out.2.2.1
      have hown := HO.out
      unfold OwnS at hown
      rw [List.length_map] at hown
      go_wp2_with (first
        | (at_builtin; refine wpList_append_own _ rfl (.tmp 29) (.tmp 33) 56 rfl w.heap.size 9 i0 (.string ByteArray.empty) 1 16 Tryd.underlying56 hi0 hz0 hz1 hz2 rfl (by decide) _ _ _ rfl (hown.alloc _) ⟨_, 0, none⟩ 1 1 [.string (s.extract st s.size)] rfl rfl ?c1 ?c2 ?c3 ?c4 ?c5 ?_))
      case c1 => exact news_one _ _ _
      case c2 => intro u hu; rw [List.mem_singleton] at hu; subst hu; rfl
      case c3 => unfold maxLen; omega
      case c4 => omega
      case c5 => simp; omega
      intro v2 w2 hown2 hgrow2 _
      have hB2 : Below w.heap.size w w2 := (hbw.alloc hsz _).grown hgrow2 (by simp; omega) (fun q hq => (World.ownsRow.lt hown q hq).1)
      have hO2 := made_last (dn := dn) hown2 HE.out
      obtain ⟨g, c, rfl, hgB⟩ := ownS_form hO2 (by unfold pcsB; simpa using pcs_ne _ _ _)
      go_wp2
      go_ret
      exact ⟨g, c, rfl, hO2, hgB, hB2⟩

end Go.Proofs.YtkmfejdmdiemaaaDoor
