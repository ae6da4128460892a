/- slices.Grow and slices.Concat of two slices of half planes. -/
import Derived.Test.YthdaoadleeelnaaApp
import Derived.Test.YthdaoadleeelnaaIns
namespace Go.Proofs.Ythdaoadleeelnaa
open Go.ChangeShapes Go.WideShapes Go.ChangeAt Go.RowKit
attribute [local go_sem ↓] Go.wp_at_zero Go.wp_at_succ
set_option linter.unusedVariables false

set_option maxHeartbeats 1000000 in
set_option maxRecDepth 100000 in
theorem growH_any (m : Nat) (w : World) (h1 : 1 ≤ m) (h2 : m ≤ 2000000) :
    Calls Try.prog 90 #[.slice none 0 0, .int .i64 m] w fun e w' => ∃ A c, e = .returned (.slice A 0 c) ∧ OwnH w' w.heap.size (.slice A 0 c) [] ∧ Below w.heap.size w w' := by
  obtain ⟨i0, hi0, hz0, hzs, hzb⟩ := info_parts infoH
  obtain ⟨G, hG⟩ : ∃ G, G = grownCap w m 0 57 := ⟨_, rfl⟩
  have hGn : m ≤ G := by rw [hG]; exact grownCap_ge w _ _ _
  have hGm : G ≤ maxLen := by rw [hG]; exact grownCap_le_maxLen w m 0 _ (by unfold maxLen; omega)
  have hG63 : G ≤ 9223372036854775807 := by unfold maxLen at hGm; omega
  obtain ⟨W1, hW1⟩ : ∃ W1, W1 = w.drew.alloc (.cells (Builtin.zeroCells (Value.agg #[.int .i64 0, .int .i64 0, .int .i64 0]).cells m ++ Builtin.zeroCells (Value.agg #[.int .i64 0, .int .i64 0, .int .i64 0]).cells (G - m)) 57) := ⟨_, rfl⟩
  have hrz : ∀ ty, (Builtin.append_ #[22, 3] ty #[.slice none 0 0, .int .i64 m]).run Try.prog w = .ok (.slice (some ⟨w.heap.size, 0, none⟩) m G) W1 := fun ty => by
    have h := Lib.run_append_nil_zeros (P := Try.prog) w 22 3 ty 57 i0 (.agg #[.int .i64 0, .int .i64 0, .int .i64 0]) .i64 .i64 Try.underlying22 Try.underlying3 hi0 hz0 m (by omega) (by omega) (by omega) (by rw [hzb]; omega)
    rw [h, hW1, hG]
  have hown : OwnH W1 w.heap.size (.slice (some ⟨w.heap.size, 0, none⟩) 0 G) [] := by
    rw [hW1]
    refine ⟨rfl, .inr ⟨w.heap.size, G, _, rfl, Nat.le_refl _, heap_alloc_new w.drew _, Nat.zero_le _, hGm, ?_, by simp [flatH]⟩⟩
    rw [Array.size_append, size_zeroCells, size_zeroCells, ← Nat.add_mul, show m + (G - m) = G by omega]; rfl
  have hbel : Below w.heap.size w W1 := by rw [hW1]; exact (Below.refl _ _).drew.alloc (Nat.le_refl _) _
  have HF := Lib.hid (And.intro hown hbel)
  have hm0 : (0 : Int) < (m : Int) := by omega
  have hmn : ¬ (m : Int) < 0 := by omega
  clear hown hbel hW1 hG
  go_enter Try.func90, Try.ntmps90
  go_wp2_with (at_builtin; refine Lib.wpList_append_run _ rfl (.tmp 20) (.tmp 21) _ _ rfl _ _ rfl rfl _ _ (hrz _) ?_)
  all_goals
    go_ret
    exact ⟨_, _, rfl, HF.out⟩

theorem growH_to {m : Nat} {z : Int} (hz : z = (m : Int)) (w : World) (h1 : 1 ≤ m) (h2 : m ≤ 2000000) :
    Calls Try.prog 90 #[.slice none 0 0, .int .i64 z] w fun e w' => ∃ A c, e = .returned (.slice A 0 c) ∧ OwnH w' w.heap.size (.slice A 0 c) [] ∧ Below w.heap.size w w' := by
  subst hz; exact growH_any m w h1 h2

set_option maxHeartbeats 1000000 in
set_option maxRecDepth 100000 in
theorem concatH_any (b : Nat) (A1 A2 : Option Addr) (n1 n2 c1 c2 : Nat) (L1 L2 : List Hp) (w : World) (hb0 : w.cell? ⟨b, 0, none⟩ = some (.slice A1 n1 c1)) (hb1 : w.cell? ⟨b, 1, none⟩ = some (.slice A2 n2 c2)) (hbw : b < w.heap.size)
    (h1 : n1 = L1.length) (h2 : n2 = L2.length) (hA1 : HsAt w w.heap.size A1 L1) (hA2 : HsAt w w.heap.size A2 L2) (hs1 : 1 ≤ n1 + n2) (hs2 : n1 + n2 ≤ 2000000) :
    Calls Try.prog 69 #[.slice (some ⟨b, 0, none⟩) 2 2] w (fun e w' => ∃ A c, e = .returned (.slice A (L1 ++ L2).length c) ∧ OwnH w' w.heap.size (.slice A (L1 ++ L2).length c) (L1 ++ L2) ∧ Below w.heap.size w w') := by
  have HA1 := Lib.hid hA1; have HA2 := Lib.hid hA2; have HN1 := Lib.hid h1; have HN2 := Lib.hid h2
  clear hA1 hA2 h1 h2
  go_enter Try.func69, Try.ntmps69
  go_wp2_with fail
  go_loopw [3, 11] (fun s i wr => wr = w ∧ ∃ (k q : Nat), k ≤ 2 ∧ i = .int .i64 k ∧ s = .int .i64 q ∧ RowKit.Hid ((k = 0 ∧ q = 0) ∨ (k = 1 ∧ q = n1) ∨ (k = 2 ∧ q = n1 + n2))) (fun _ i _ => 2 - (intOf i).toNat)
  case atStart => exact ⟨rfl, 0, 0, by omega, rfl, rfl, .inl ⟨rfl, rfl⟩⟩
  case round =>
    obtain ⟨rfl, k, q, hk, rfl, rfl, HQ⟩ := hrel
    rcases HQ.out with ⟨e1, e2⟩ | ⟨e1, e2⟩ | ⟨e1, e2⟩
    · subst e1 e2
      clear HQ
      go_wp2_with fail
      go_roundw
      case rel => exact ⟨by first | rfl | trivial, 1, n1, by omega, rfl, rfl, .inr (.inl ⟨rfl, rfl⟩)⟩
      case measure => simp [intOf]
    · subst e1
      subst e2
      clear HQ
      go_wp2_with fail
      go_roundw
      case rel => exact ⟨by first | rfl | trivial, 2, q + n2, by omega, rfl, by go_num, .inr (.inr ⟨rfl, rfl⟩)⟩
      case measure => simp [intOf]
    · subst e1 e2
      clear HQ
      rename World => W
      go_wp2_with fail
      go_at_call 90; refine (growH_to (m := n1 + n2) (by omega) W hs1 hs2).mono ?_; rintro e w1 ⟨A, c, rfl, hO, hb⟩
      have HO := Lib.hid hO
      clear hO
      go_wp2_with fail
      clear hk
      go_loopw [6, 27] (fun v i wr => ∃ (k : Nat) (L : List Hp) (A : Option Addr) (c : Nat), i = .int .i64 k ∧ v = .slice A L.length c ∧ RowKit.Hid ((k = 0 ∧ L = []) ∨ (k = 1 ∧ L = L1) ∨ (k = 2 ∧ L = L1 ++ L2)) ∧ RowKit.Hid (OwnH wr W.heap.size (.slice A L.length c) L) ∧ Below W.heap.size W wr) (fun _ i _ => 2 - (intOf i).toNat)
      case atStart => exact ⟨0, [], A, c, rfl, rfl, .inl ⟨rfl, rfl⟩, HO.out, hb⟩
      case round =>
        obtain ⟨k, L, A3, c3, rfl, rfl, HQ, HO3, hb3⟩ := hrel
        have q0 := cell_keep hb3 hb0 hbw
        have q1 := cell_keep hb3 hb1 hbw
        have hsz := hb3.size
        rcases HQ.out with ⟨e1, e2⟩ | ⟨e1, e2⟩ | ⟨e1, e2⟩
        · subst e1
          subst e2
          clear HQ
          go_wp2_with (at_builtin; refine wpList_appendH rfl (.tmp 31) (.tmp 32) rfl HO3.out rfl rfl (M := L1) HN1.out (HA1.out.step hb3) (by have := HN1.out; simp; omega) hsz ?_; intro v2 w2 hap; obtain ⟨A4, c4, rfl⟩ := hap.1.form)
          go_roundw
          case rel => exact ⟨1, L1, A4, c4, rfl, rfl, .inr (.inl ⟨rfl, rfl⟩), hap.1, hap.below HO3.out hb3 hsz⟩
          case measure => simp [intOf]
        · subst e1
          subst e2
          clear HQ
          go_wp2_with (at_builtin; refine wpList_appendH rfl (.tmp 31) (.tmp 32) rfl HO3.out rfl rfl (M := L2) HN2.out (HA2.out.step hb3) (by have := HN1.out; have := HN2.out; omega) hsz ?_; intro v2 w2 hap; obtain ⟨A4, c4, rfl⟩ := hap.1.form)
          go_roundw
          case rel => exact ⟨2, L ++ L2, A4, c4, rfl, by rw [List.length_append], .inr (.inr ⟨rfl, rfl⟩), hap.1, hap.below HO3.out hb3 hsz⟩
          case measure => simp [intOf]
        · subst e1
          subst e2
          clear HQ
          go_wp2_with fail
          go_ret
          exact ⟨A3, c3, rfl, HO3.out, hb3⟩

end Go.Proofs.Ythdaoadleeelnaa
