/- MakeHalves of the reference: at most five valid half planes, for all byte slices. -/
import Derived.Test.YthdaoadleeelnaaMake
import Derived.Test.YthdaoadleeelnaaRn11
namespace Go.Proofs.Ythdaoadleeelnaa
open Go.ChangeShapes Go.WideShapes Go.ChangeAt Go.RowKit
attribute [local go_sem ↓] Go.wp_at_zero Go.wp_at_succ
set_option linter.unusedVariables false

def HalvesMade (w : World) (e : Ending) (w' : World) : Prop :=
  ∃ (L : List Hp) (Av : Option Addr) (cv : Nat), L.length ≤ 5 ∧ (∀ h ∈ L, okH h = true) ∧ e = .returned (.slice Av L.length cv) ∧ OwnH w' w.heap.size (.slice Av L.length cv) L ∧ Below w.heap.size w w'

theorem CurAt.apart {w w1 : World} {B g : Nat} {A : Option Addr} {n c : Nat} (h : CurAt w B g A n c) {row : Option Nat} (hg : w.grownBy w1 row) (hr : ∀ q, row = some q → g + 1 ≤ q) : CurAt w1 B g A n c :=
  h.kept (grown_below hg h.lt hr)

set_option maxHeartbeats 1000000 in
set_option maxRecDepth 100000 in
theorem MakeHalves_any (A : Option Addr) (n c : Nat) (w : World) (hn : n ≤ 1048576) (hB : BytesAt w w.heap.size A n) :
    Calls Try.prog 39 #[.slice A n c] w (HalvesMade w) := by
  have HB := Lib.hid hB; clear hB
  go_enter Try.func39, Try.ntmps39
  go_wp2_with fail
  go_at_call 59; refine (l01New_any A n c w hn HB.out).mono ?_; rintro e w1 ⟨g, rfl, hC1, hb1⟩
  have HC1 := Lib.hid hC1
  have HS1 := Lib.hid hb1
  have hgB := hC1.1
  have hg1 := hC1.lt
  have hz1 := hb1.size
  have HO1 := Lib.hid (own_empty (B := w1.heap.size) (W := w1) (g := w1.heap.size) rfl (Nat.le_refl _))
  clear hC1 hb1
  go_wp2_with fail
  go_at_call 60; refine (l01Below_any 6 _ g A n c _ (HC1.out.alloc _) (by omega) (by omega)).mono ?_; rintro e w2 ⟨x, hx1, hx2, rfl, hC2, hg2⟩
  have HC2 := Lib.hid hC2
  have hz2 := hg2.size
  have HS2 := Lib.hid ((HS1.out.alloc hz1 (.cells #[] 57)).trans (grown_belowH hg2 (by simp; omega) hgB))
  have HO2 := Lib.hid (HO1.out.keptBut hg2 (HO1.out.near hg1))
  have hz2' : w1.heap.size ≤ w2.heap.size := by simp at hz2; omega
  clear hC2 hg2 HC1 HO1 HS1 hz2
  obtain ⟨r, rfl⟩ : ∃ r : Nat, x = (r : Int) := ⟨x.toNat, by omega⟩
  go_wp2_with fail
  go_loopw [4, 5] (fun v i wr => ∃ (k : Nat) (L : List Hp) (Av : Option Addr) (cv : Nat), i = .int .i64 k ∧ v = .slice Av L.length cv ∧ L.length + k ≤ 5 ∧ RowKit.Hid (∀ h ∈ L, okH h = true) ∧ RowKit.Hid (OwnH wr w1.heap.size (.slice Av L.length cv) L) ∧ RowKit.Hid (CurAt wr w.heap.size g A n c) ∧ w1.heap.size ≤ wr.heap.size ∧ RowKit.Hid (Below w.heap.size w wr)) (fun _ i _ => (intOf i).toNat)
  case atStart => exact ⟨r, [], _, _, rfl, rfl, by simp; omega, (by intro h hh; cases hh), HO2.out, HC2.out, hz2', HS2.out⟩
  case round =>
    obtain ⟨k, L, Av, cv, rfl, rfl, hLk, HX, HO, HC, hzr, HS⟩ := hrel
    by_cases hk : 0 < k
    · go_wp2_with fail
      go_at_call 61; refine (l04Draw_any _ g A n c _ HC.out).mono ?_; rintro e w3 ⟨p, q, s, hv, hr, rfl, hC3, hg3⟩
      have HC3 := Lib.hid hC3
      have hz3 := hg3.size
      have HS3 := Lib.hid (HS.out.trans (grown_belowH hg3 (by omega) hgB))
      have HO3 := Lib.hid ((HO.out.keptBut hg3 (HO.out.near hg1)).kept (w' := w3.alloc (.cells #[.int .i64 p, .int .i64 q, .int .i64 s] 57)) ((Below.refl _ _).alloc (Nat.le_refl _) _))
      have HX3 := Lib.hid (show ∀ h ∈ L ++ [(p, q, s)], okH h = true from fun h hh => by
        rcases List.mem_append.1 hh with e | e
        · exact HX.out h e
        · rw [List.mem_singleton] at e; subst e; exact hv)
      clear hC3 hg3 HC HS HO HX hv
      go_wp2_with (at_builtin; refine wpList_appendH rfl (.tmp 15) (.tmp 18) rfl HO3.out rfl rfl (M := [(p, q, s)]) rfl (hsAt_new _ _ _ _ _) (by simp; omega) (Nat.le_trans (Nat.le_trans hzr hz3) (Nat.le_of_lt (new_lt _ _))) ?_; intro v7 w7 hap; obtain ⟨g7, c7, rfl, hg7B, hg7⟩ := hap.shape (k := 1) rfl Nat.one_pos)
      have HC7 := Lib.hid ((HC3.out.alloc (.cells #[.int .i64 p, .int .i64 q, .int .i64 s] 57)).apart hap.2.1 (fun q hq => by have := HO3.out.low q hq; omega))
      have HS7 := Lib.hid ((HS3.out.alloc HS3.out.size (.cells #[.int .i64 p, .int .i64 q, .int .i64 s] 57)).trans (grown_below hap.2.1 (Nat.le_trans HS3.out.size (Nat.le_of_lt (new_lt _ _))) (fun q hq => by have := HO3.out.low q hq; omega)))
      have O7 := Lib.hid hap.1
      have hz7 := hap.2.1.size
      clear hap
      go_roundw
      case rel => exact ⟨k - 1, L ++ [(p, q, s)], some ⟨g7, 0, none⟩, c7, by go_num, by rw [List.length_append]; rfl, by rw [List.length_append]; simp; omega, HX3.out, (by have := O7.out; rw [List.length_append]; exact this), HC7.out, by simp at hz7; omega, HS7.out⟩
      case measure => simp [intOf]; omega
    · go_wp2_with fail
      go_ret
      exact ⟨L, Av, cv, by omega, HX.out, rfl, HO.out.wide hz1, HS.out⟩

end Go.Proofs.Ythdaoadleeelnaa
