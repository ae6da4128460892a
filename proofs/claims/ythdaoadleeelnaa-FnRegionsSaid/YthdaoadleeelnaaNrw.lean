/- mark.narrow of the program: a mark keeps the later or the earlier one. -/
import Derived.Test.YthdaoadleeelnaaCmp
import Derived.Test.YthdaoadleeelnaaQb
import Derived.Test.YthdaoadleeelnaaApp
namespace Go.Proofs.Ythdaoadleeelnaa
open Go.ChangeShapes Go.WideShapes Go.ChangeAt Go.RowKit
attribute [local go_sem ↓] Go.wp_at_zero Go.wp_at_succ
set_option linter.unusedVariables false

theorem compare_is {a b c d v : Int} (hv : cmpS a b c d = v) (w : World) (ha : -9223372036854775808 ≤ a ∧ a ≤ 9223372036854775807) (hb : 1 ≤ b ∧ b ≤ 9223372036854775807) (hc : -9223372036854775808 ≤ c ∧ c ≤ 9223372036854775807) (hd : 1 ≤ d ∧ d ≤ 9223372036854775807) :
    Calls Try.prog 95 #[.int .i64 a, .int .i64 b, .int .i64 c, .int .i64 d] w fun e w' => e = .returned (.int .i64 v) ∧ w = w' := by
  subst hv; exact compare_any a b c d w ha.1 ha.2 hb.1 hb.2 hc.1 hc.2 hd.1 hd.2

theorem compare_q {a b c d v : Int} (hv : cmpS a b c d = v) (w : World) (ha : -9223372036854775808 ≤ a ∧ a ≤ 9223372036854775807) (hb : 1 ≤ b ∧ b ≤ 9223372036854775807) (hc : -9223372036854775808 ≤ c ∧ c ≤ 9223372036854775807) (hd : 1 ≤ d ∧ d ≤ 9223372036854775807) :
    Calls Try.prog 95 #[.int .i64 a, .int .i64 b, .int .i64 c, .int .i64 d] w fun e w' => e = .returned (.int .i64 v) ∧ w' = w :=
  (compare_is hv w ha hb hc hd).mono fun _ _ ⟨he, hw⟩ => ⟨he, hw.symm⟩

/-- A mark in memory. -/
def MarkAt (w : World) (mb : Nat) (n d : Int) (i : Bool) : Prop :=
  (w.cell? ⟨mb, 0, none⟩ = some (.int .i64 n) ∧ w.cell? ⟨mb, 1, none⟩ = some (.int .i64 d) ∧ w.cell? ⟨mb, 2, none⟩ = some (.bool i)) ∧ (w.frozen? ⟨mb, 0, none⟩ = false ∧ w.frozen? ⟨mb, 1, none⟩ = false ∧ w.frozen? ⟨mb, 2, none⟩ = false) ∧ mb < w.heap.size

theorem MarkAt.below {w w' : World} {mb : Nat} {n d : Int} {i : Bool} (h : MarkAt w mb n d i) (hb : Below w.heap.size w w') : MarkAt w' mb n d i := by
  obtain ⟨⟨c0, c1, c2⟩, ⟨z0, z1, z2⟩, hl⟩ := h
  exact ⟨⟨cell_keep hb c0 hl, cell_keep hb c1 hl, cell_keep hb c2 hl⟩, ⟨frozen_keep hb z0 hl, frozen_keep hb z1 hl, frozen_keep hb z2 hl⟩, Nat.lt_of_lt_of_le hl hb.size⟩

theorem MarkAt.other {w w' : World} {mb g : Nat} {n d : Int} {i : Bool} (h : MarkAt w mb n d i) (hb : w.grownBy w' (some g)) (hne : mb ≠ g) : MarkAt w' mb n d i := by
  obtain ⟨⟨c0, c1, c2⟩, ⟨z0, z1, z2⟩, hl⟩ := h
  have hh := hb.block mb hl (by intro e; injection e with e; exact hne e)
  have hc : ∀ o, w'.cell? ⟨mb, o, none⟩ = w.cell? ⟨mb, o, none⟩ := fun o => World.cell?_of_block hh
  have hf : ∀ o, w'.frozen? ⟨mb, o, none⟩ = w.frozen? ⟨mb, o, none⟩ := fun o => World.frozen?_of_block hh
  exact ⟨⟨(hc _).trans c0, (hc _).trans c1, (hc _).trans c2⟩, ⟨(hf _).trans z0, (hf _).trans z1, (hf _).trans z2⟩, Nat.lt_of_lt_of_le hl hb.size⟩

theorem MarkAt.put {w : World} {mb : Nat} {n d : Int} {i : Bool} (h : MarkAt w mb n d i) (n' d' : Int) (i' : Bool) :
    MarkAt (((w.setCell ⟨mb, 0, none⟩ (.int .i64 n')).setCell ⟨mb, 1, none⟩ (.int .i64 d')).setCell ⟨mb, 2, none⟩ (.bool i')) mb n' d' i' ∧ w.grownBy (((w.setCell ⟨mb, 0, none⟩ (.int .i64 n')).setCell ⟨mb, 1, none⟩ (.int .i64 d')).setCell ⟨mb, 2, none⟩ (.bool i')) (some mb) := by
  obtain ⟨⟨c0, c1, c2⟩, ⟨z0, z1, z2⟩, hl⟩ := h
  refine ⟨⟨⟨?_, ?_, set3_2 c2 _ _ _⟩, ⟨by simpa using z0, by simpa using z1, by simpa using z2⟩, by simpa using hl⟩, ⟨rfl, rfl, rfl, by simp, fun k _ hk => ?_⟩⟩
  · rw [World.cell?_setCell_other _ _ _ _ (by simp), World.cell?_setCell_other _ _ _ _ (by simp)]; exact set_0 c0 _
  · rw [World.cell?_setCell_other _ _ _ _ (by simp)]; exact set2_1 c1 _ _
  · have hne : k ≠ mb := fun e => hk (by rw [e])
    rw [Below.heap_setCell _ ⟨mb, 2, none⟩ _ k hne, Below.heap_setCell _ ⟨mb, 1, none⟩ _ k hne, Below.heap_setCell _ ⟨mb, 0, none⟩ _ k hne]

theorem grown_later {w w' : World} {r : Option Nat} (h : w.grownBy w' r) (n : Nat) : w.grownBy (w'.drewN n) r := ⟨h.os, h.tape, h.output, h.size, h.block⟩

theorem MarkAt.later {w : World} {mb : Nat} {n d : Int} {i : Bool} (h : MarkAt w mb n d i) (k : Nat) : MarkAt (w.drewN k) mb n d i := h

/-- Does the mark stay as it is? -/
def stays (later : Bool) (c : Int) : Bool := if later then decide (c ≤ 0) else decide (0 ≤ c)

set_option maxHeartbeats 1000000 in
set_option maxRecDepth 100000 in
theorem narrow_any (mb : Nat) (mn md n d : Int) (mi later : Bool) (w : World) (hM : MarkAt w mb mn md mi)
    (hn : -9223372036854775808 ≤ n ∧ n ≤ 9223372036854775807) (hd : 1 ≤ d ∧ d ≤ 9223372036854775807) (hmn : -9223372036854775808 ≤ mn ∧ mn ≤ 9223372036854775807) (hmd : mi = true → 1 ≤ md ∧ md ≤ 9223372036854775807) :
    Calls Try.prog 94 #[.pointer (some ⟨mb, 0, none⟩), .int .i64 n, .int .i64 d, .bool later] w fun e w' => e = .returned (.tuple #[]) ∧ w.grownBy w' (some mb) ∧
      ((mi = true ∧ stays later (cmpS n d mn md) = true ∧ MarkAt w' mb mn md true) ∨ ((mi = false ∨ stays later (cmpS n d mn md) = false) ∧ MarkAt w' mb n d true)) := by
  have HM := Lib.hid hM
  obtain ⟨⟨c0, c1, c2⟩, ⟨z0, z1, z2⟩, hl⟩ := hM
  cases mi
  · obtain ⟨P1, P2⟩ := HM.out.put n d true
    have P1 := Lib.hid P1
    have P2 := Lib.hid P2
    go_enter Try.func94, Try.ntmps94
    go_wp2_with fail
    go_end0
    exact ⟨rfl, P2.out, .inr ⟨.inl (by trivial), P1.out⟩⟩
  · obtain ⟨hd1, hd2⟩ := hmd rfl
    obtain ⟨c, hc⟩ : ∃ c, cmpS n d mn md = c := ⟨_, rfl⟩
    have HC := Lib.hid hc
    obtain ⟨P1, P2⟩ := HM.out.put n d true
    have P1 := Lib.hid P1
    have P2 := Lib.hid P2
    have HS : RowKit.Hid (∀ s, stays later (cmpS n d mn md) = s → stays later c = s) := fun s h => by rw [hc] at h; exact h
    clear hc
    cases later
    all_goals
      rcases Int.lt_trichotomy c 0 with hlt | hlt | hlt
      all_goals
        have hle : c ≤ 0 ∨ ¬ c ≤ 0 := by omega
        have hge : 0 ≤ c ∨ ¬ 0 ≤ c := by omega
        rcases hle with hle | hle
        all_goals
          rcases hge with hge | hge
          all_goals
            first
              | (exfalso; omega)
              | skip
    all_goals
      go_enter Try.func94, Try.ntmps94
      go_wp2_with fail
      go_quiet ((go_at_call 95; with_reducible exact Calls.quiet_of_same (compare_q HC.out _ hn hd hmn ⟨hd1, hd2⟩)))
      go_wp2_with fail
      first
        | go_end0
        | refine bodyPost_ret (v := .tuple #[]) (by simp [results, Try.results94, go_sem]) rfl ?_
      first
        | exact ⟨rfl, grown_later (World.grownBy.refl _ _) _, .inl ⟨by trivial, (by unfold RowKit.Hid at HS; rw [HC.out]; simp [stays]; omega), HM.out.later _⟩⟩
        | exact ⟨rfl, grown_later P2.out _, .inr ⟨.inr (by rw [HC.out]; simp [stays]; omega), P1.out.later _⟩⟩

end Go.Proofs.Ythdaoadleeelnaa
