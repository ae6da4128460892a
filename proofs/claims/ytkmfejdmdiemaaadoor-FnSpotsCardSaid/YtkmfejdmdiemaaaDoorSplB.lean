/- SplitAny of the reference. -/
import Derived.Test.YtkmfejdmdiemaaaDoorSplA
namespace Go.Proofs.YtkmfejdmdiemaaaDoor
open Go.ChangeShapes Go.WideShapes Go.ChangeAt Go.RowKit
attribute [local go_sem ↓] Go.wp_at_zero Go.wp_at_succ
set_option linter.unusedVariables false

theorem first_of {l : List UInt8} {c : UInt8} (h : l.contains c = true) : ∃ p : Nat, ∃ hp : p < l.length, l[p] = c ∧ ∀ j (hj : j < l.length), j < p → l[j] ≠ c := by
  induction l with
  | nil => simp at h
  | cons a l ih =>
    by_cases e : a = c
    · exact ⟨0, by simp, by simpa using e, fun j hj hlt => by omega⟩
    · have : l.contains c = true := by
        simp at h
        rcases h with h | h
        · exact absurd h.symm e
        · simpa using h
      obtain ⟨p, hp, h1, h2⟩ := ih this
      refine ⟨p + 1, by simp; omega, by simpa using h1, fun j hj hlt => ?_⟩
      match j with
      | 0 => simpa using e
      | j + 1 => simpa using h2 j (by simpa using hj) (by omega)

theorem amg_first {b : ByteArray} {c : UInt8} (h : amg b c = true) : ∃ p : Nat, ∃ hp : p < b.size, b[p] = c ∧ ∀ j (hj : j < b.size), j < p → ¬ b[j] = c := by
  obtain ⟨p, hp, h1, h2⟩ := first_of h
  exact ⟨p, by simpa using hp, h1, fun j hj hlt => h2 j (by simpa using hj) hlt⟩

theorem amg_none {b : ByteArray} {c : UInt8} (h : amg b c = false) : ∀ j (hj : j < b.size), ¬ b[j] = c := by
  intro j hj e
  unfold amg at h
  have : c ∈ b.data.toList := by
    rw [← e]
    show b.data[j]'hj ∈ b.data.toList
    exact Array.getElem_mem_toList _
  simp [this] at h

theorem byte_ne {a b : UInt8} (h : ¬ a = b) : ¬ (a.toNat : Int) = (b.toNat : Int) := fun e => h (UInt8.toNat_inj.1 (by omega))

set_option maxHeartbeats 2000000 in
set_option maxRecDepth 100000 in
theorem sSplitAny_any (s by_ : ByteArray) (w : World) (hs : s.size ≤ 1048576) (hb : by_.size ≤ 1048576) :
    Calls Tryd.prog 41 #[.string s, .string by_] w (MadeS (pcsB s by_) w) := by
  obtain ⟨i0, hi0, hz0, hz1, hz2⟩ := info_parts infoS
  go_enter Tryd.func41, Tryd.ntmps41
  go_wp2_with fail
  go_loopw [5, 6, 7] (fun o f i wr => ∃ (k st : Nat) (done : List (List UInt8)), i = .int .i64 k ∧ f = .int .i64 st ∧ k ≤ s.size ∧ st ≤ k ∧ RowKit.Hid (PcsAt (amg by_) s k st done) ∧ RowKit.Hid (OwnS wr w.heap.size o (done.map bs)) ∧ Below w.heap.size w wr) (fun _ _ i _ => s.size - (intOf i).toNat)
  case atStart => exact ⟨0, 0, [], rfl, rfl, Nat.zero_le _, Nat.le_refl _, pcsAt_zero _ _, World.ownsRow_made w #[] 0 (Nat.le_refl _) (by unfold maxLen; omega) rfl, (by repeat (first | exact Below.refl _ _ | assumption | refine below_drewN ?_ _ | refine Below.drew ?_ | refine Below.alloc ?_ (by first | omega | (simp <;> omega)) _ | refine Below.setCell ?_ (by first | omega | (simp <;> omega)) _))⟩
  case round =>
    obtain ⟨k, st, dn, rfl, rfl, hk, hst, HP, HO, hbw⟩ := hrel
    have hsz := hbw.size
    by_cases hlt : k < s.size
    · cases ha : amg by_ s[k]
      · have HS := Lib.hid (pcsAt_on HP.out hlt ha)
        have HX := Lib.hid (amg_none ha)
        go_wp2_with fail
        go_loopw [5, 6, 8] (fun o f q wx => o = u5 ∧ f = .int .i64 st ∧ ∃ j : Nat, q = .int .i64 j ∧ j ≤ by_.size ∧ ∃ nd, wx = wr.drewN nd) (fun _ _ q _ => by_.size - (intOf q).toNat)
        case atStart => exact ⟨rfl, rfl, 0, rfl, Nat.zero_le _, 0, rfl⟩
        case round =>
          obtain ⟨rfl, rfl, j, rfl, hj, nd, rfl⟩ := hrel
          by_cases hjl : j < by_.size
          · have hne := byte_ne (fun e => HX.out j hjl e.symm)
            go_wp2_with fail
            go_quiet (fail)
            go_wp2_with fail
            go_roundw
            case rel => exact ⟨rfl, rfl, j + 1, by go_num, by omega, _, rfl⟩
            case measure => simp [intOf]; omega
          · go_wp2_with fail
            go_roundw
            case rel => exact ⟨k + 1, st, dn, by go_num, rfl, by omega, by omega, HS, Lib.hid (HO.out.kept (below_drewN (Below.refl _ _) nd)), below_drewN hbw nd⟩
            case measure => simp [intOf]; omega
      · have HS := Lib.hid (pcsAt_cut HP.out hlt ha)
        have hdl := HP.out.2.2.1
        obtain ⟨p, hp, hpe, hpn⟩ := amg_first ha
        have HX := Lib.hid hpn
        clear hpn
        go_wp2_with fail
        go_loopw [5, 6, 8] (fun o f q wx => o = u5 ∧ f = .int .i64 st ∧ ∃ j : Nat, q = .int .i64 j ∧ j ≤ p ∧ ∃ nd, wx = wr.drewN nd) (fun _ _ q _ => by_.size - (intOf q).toNat)
        case atStart => exact ⟨rfl, rfl, 0, rfl, Nat.zero_le _, 0, rfl⟩
        case round =>
          obtain ⟨rfl, rfl, j, rfl, hj, nd, rfl⟩ := hrel
          by_cases hjl : j < p
          · have hjb : j < by_.size := by omega
            have hne := byte_ne (fun e => HX.out j hjb hjl e.symm)
            go_wp2_with fail
            go_quiet (fail)
            go_wp2_with fail
            go_roundw
            case rel => exact ⟨rfl, rfl, j + 1, by go_num, by omega, _, rfl⟩
            case measure => simp [intOf]; omega
          · have hjp : j = p := by omega
            subst hjp
            clear hjl hj
            go_wp2_with fail
            go_quiet (fail)
            have hO2 := HO.out.kept (below_drewN (Below.refl wr.heap.size wr) nq)
            have hown := hO2
            unfold OwnS at hown
            rw [List.length_map] at hown
            go_wp2_with (first
              | (at_builtin; refine wpList_append_own _ rfl (.tmp 29) (.tmp 34) 56 rfl w.heap.size 9 i0 (.string ByteArray.empty) 1 16 Tryd.underlying56 hi0 hz0 hz1 hz2 rfl (by decide) _ _ _ rfl (hown.alloc _) ⟨_, 0, none⟩ 1 1 [.string (s.extract st k)] rfl rfl ?c1 ?c2 ?c3 ?c4 ?c5 ?_))
            case c1 => exact news_one _ _ _
            case c2 => intro u hu; rw [List.mem_singleton] at hu; subst hu; rfl
            case c3 => unfold maxLen; omega
            case c4 => omega
            case c5 => simp; omega
            intro v2 w2 hown2 hgrow2 _
            go_wp2
            go_roundw
            case rel =>
              refine ⟨k + 1, k + 1, dn ++ [(s.data.toList.drop st).take (k - st)], by go_num, by go_num, by omega, by omega, HS, ?_, ?_⟩
              · unfold RowKit.Hid OwnS
                rw [List.length_map, List.length_append, List.map_append]
                simpa [strV, bs_extract] using hown2
              · exact ((below_drewN hbw _).alloc (by simp; omega) _).grown hgrow2 (by simp; omega) (fun q hq => (World.ownsRow.lt hown q hq).1)
            case measure => simp [intOf]; omega
    · have HE := Lib.hid (pcsAt_end HP.out hlt)
      have hdl := HP.out.2.2.1
      have hown := HO.out
      unfold OwnS at hown
      rw [List.length_map] at hown
      go_wp2_with (first
        | (at_builtin; refine wpList_append_own _ rfl (.tmp 38) (.tmp 42) 56 rfl w.heap.size 9 i0 (.string ByteArray.empty) 1 16 Tryd.underlying56 hi0 hz0 hz1 hz2 rfl (by decide) _ _ _ rfl (hown.alloc _) ⟨_, 0, none⟩ 1 1 [.string (s.extract st s.size)] rfl rfl ?c1 ?c2 ?c3 ?c4 ?c5 ?_))
      case c1 => exact news_one _ _ _
      case c2 => intro u hu; rw [List.mem_singleton] at hu; subst hu; rfl
      case c3 => unfold maxLen; omega
      case c4 => omega
      case c5 => simp; omega
      intro v2 w2 hown2 hgrow2 _
      have hB2 : Below w.heap.size w w2 := (hbw.alloc hsz _).grown hgrow2 (by simp; omega) (fun q hq => (World.ownsRow.lt hown q hq).1)
      have hO2 := made_last (dn := dn) hown2 HE.out
      obtain ⟨g, c, rfl, hgB⟩ := ownS_form hO2 (by unfold pcsB; simpa using pcs_ne _ _ _)
      go_wp2
      go_ret
      exact ⟨g, c, rfl, hO2, hgB, hB2⟩

end Go.Proofs.YtkmfejdmdiemaaaDoor
