/- Contracts of the program's and the reference's helpers on integers: each theorem says what one Go function returns for all integers, and that it leaves old memory alone. -/
import Derived.Test.YthdaoadleeelnaaRows
import Derived.WalkKit
import Derived.WalkLawsBesides
import Derived.WalkSpells
import Derived.WalkSmall
import Derived.Deep.QuietTactic
import Derived.BigQuiet
import Derived.ProofKit
import Derived.Lib.Hide
import Derived.Deep.LoopGhost
import Derived.Deep.RegionHeld3
import Derived.Deep.DrawnRows
import Derived.Deep.DeepCutAuto
import Derived.Deep.DeepMust
import Derived.Outline
namespace Go.Proofs.Ythdaoadleeelnaa
open Go.ChangeShapes Go.WideShapes Go.ChangeAt Go.RowKit
attribute [local go_sem ↓] Go.wp_at_zero Go.wp_at_succ
set_option linter.unusedVariables false

theorem ret_int {k : IntKind} {a b : Int} (h : a = b) : Ending.returned (.int k a) = .returned (.int k b) := by rw [h]

theorem ret_bool {a b : Bool} (h : a = b) : Ending.returned (.bool a) = .returned (.bool b) := by rw [h]

theorem bcell {W w1 : World} (hb : Below W.heap.size W w1) : (∀ b o, b < W.heap.size → w1.cell? ⟨b, o, none⟩ = W.cell? ⟨b, o, none⟩) ∧ (∀ b o, b < W.heap.size → w1.frozen? ⟨b, o, none⟩ = W.frozen? ⟨b, o, none⟩) :=
  ⟨fun b o h => hb.cell (p := ⟨b, o, none⟩) h, fun b o h => hb.frozen (p := ⟨b, o, none⟩) h⟩

theorem cell_keep {W w1 : World} {p : Addr} {v : Value} (hb : Below W.heap.size W w1) (h : W.cell? p = some v) (hp : p.block < W.heap.size) : w1.cell? p = some v := by rw [hb.cell hp]; exact h

theorem frozen_keep {W w1 : World} {p : Addr} (hb : Below W.heap.size W w1) (h : W.frozen? p = false) (hp : p.block < W.heap.size) : w1.frozen? p = false := by rw [hb.frozen hp]; exact h

theorem S_below {B : Nat} {w W w1 : World} (hb : Below W.heap.size W w1) (h : Below B w W) (hB : B ≤ W.heap.size) : Below B w w1 := h.trans (hb.mono hB)

theorem S_lt {n : Nat} {W w1 : World} (hb : Below W.heap.size W w1) (h : n < W.heap.size) : n < w1.heap.size := Nat.lt_of_lt_of_le h hb.size

theorem S_realloc {B : Nat} {w W : World} {o o' : Obj} (h : Below B w (W.alloc o)) (hB : B ≤ W.heap.size) : Below B w (W.alloc o') := by
  refine ⟨h.os, h.tape, h.output, by have := h.size; simp only [World.size_alloc] at *; exact this, fun k hk => ?_⟩
  have h1 := h.block k hk
  rw [Below.heap_alloc _ _ _ (by omega)] at h1 ⊢
  exact h1

theorem S_size {n : Nat} {W w1 : World} (hb : Below W.heap.size W w1) (h : n ≤ W.heap.size) : n ≤ w1.heap.size := Nat.le_trans h hb.size

theorem set_0 {w : World} {b : Nat} {u : Value} (h : w.cell? ⟨b, 0, none⟩ = some u) (v : Value) : (w.setCell ⟨b, 0, none⟩ v).cell? ⟨b, 0, none⟩ = some v := World.cell?_setCell_same _ _ _ h

theorem set2_1 {w : World} {b : Nat} {u : Value} (h : w.cell? ⟨b, 1, none⟩ = some u) (v0 v : Value) : ((w.setCell ⟨b, 0, none⟩ v0).setCell ⟨b, 1, none⟩ v).cell? ⟨b, 1, none⟩ = some v := by
  refine World.cell?_setCell_same (u := u) _ _ _ ?_
  rw [World.cell?_setCell_other _ _ _ _ (by simp)]; exact h

theorem set3_2 {w : World} {b : Nat} {u : Value} (h : w.cell? ⟨b, 2, none⟩ = some u) (v0 v1 v : Value) : (((w.setCell ⟨b, 0, none⟩ v0).setCell ⟨b, 1, none⟩ v1).setCell ⟨b, 2, none⟩ v).cell? ⟨b, 2, none⟩ = some v := by
  refine World.cell?_setCell_same (u := u) _ _ _ ?_
  rw [World.cell?_setCell_other _ _ _ _ (by simp), World.cell?_setCell_other _ _ _ _ (by simp)]; exact h

theorem quiet_add_same {P : Program} {f : FuncId} {args : Array Value} {w : World} {a n : Nat} {v : Value}
    (h : Calls P f args (w.drewN (a + n)) fun e w' => e = .returned v ∧ w' = w.drewN (a + n)) :
    Calls P f args (w.drewN (a + n)) fun e w'' => e = .returned v ∧ ∃ m, w'' = w.drewN (a + m) :=
  h.mono fun _ _ ⟨he, hm⟩ => ⟨he, n, hm⟩

theorem quiet_add {P : Program} {f : FuncId} {args : Array Value} {w : World} {a n : Nat} {v : Value}
    (h : Calls P f args (w.drewN (a + n)) fun e w' => e = .returned v ∧ ∃ m, w' = (w.drewN (a + n)).drewN m) :
    Calls P f args (w.drewN (a + n)) fun e w'' => e = .returned v ∧ ∃ m, w'' = w.drewN (a + m) :=
  h.mono fun _ _ ⟨he, m, hm⟩ => ⟨he, n + m, by rw [hm, World.drewN_drewN, Nat.add_assoc]⟩

/-- x is an int. -/
def I64 (x : Int) : Prop := -9223372036854775808 ≤ x ∧ x ≤ 9223372036854775807

def magI (n : Int) : Int := (n.natAbs : Int)

theorem magI_neg (n : Int) (h1 : -9223372036854775808 ≤ n) (hn : n < 0) : IntKind.u64.wrap (-IntKind.u64.wrap n) = magI n := by
  unfold magI
  have e : IntKind.u64.wrap n = n + 18446744073709551616 := by
    unfold IntKind.wrap; simp [IntKind.bits, IntKind.signed]; omega
  rw [e]; unfold IntKind.wrap; simp [IntKind.bits, IntKind.signed]; omega

set_option maxHeartbeats 400000 in
set_option maxRecDepth 100000 in
theorem magnitude_any (n : Int) (w : World) (h1 : -9223372036854775808 ≤ n) (h2 : n ≤ 9223372036854775807) :
    Calls Try.prog 96 #[.int .i64 n] w fun e w' => e = .returned (.int .u64 (magI n)) ∧ w = w' := by
  by_cases hn : n < 0
  · go_enter Try.func96, Try.ntmps96
    go_wp2
    go_ret
    exact ⟨ret_int (magI_neg n h1 hn), rfl⟩
  · go_enter Try.func96, Try.ntmps96
    go_wp2
    go_ret
    exact ⟨ret_int (by unfold magI; omega), rfl⟩

theorem magnitude_n (n : Int) (w : World) (h1 : -9223372036854775808 ≤ n) (h2 : n ≤ 9223372036854775807) :
    Calls Try.prog 96 #[.int .i64 n] w fun e w' => e = .returned (.int .u64 ((n.natAbs : Nat) : Int)) ∧ w = w' := magnitude_any n w h1 h2

theorem magnitude_q (n : Int) (w : World) (h1 : -9223372036854775808 ≤ n) (h2 : n ≤ 9223372036854775807) :
    Calls Try.prog 96 #[.int .i64 n] w fun e w' => e = .returned (.int .u64 ((n.natAbs : Nat) : Int)) ∧ w' = w :=
  (magnitude_any n w h1 h2).mono fun _ _ ⟨he, hw⟩ => ⟨he, hw.symm⟩

set_option maxHeartbeats 400000 in
set_option maxRecDepth 100000 in
theorem turn_any (a b : Int) (w : World) (ha : 0 ≤ a) (hb : 1 ≤ b) :
    Calls Try.prog 85 #[.int .i64 a, .int .i64 b] w fun e w' => e = .returned (.tuple #[.int .i64 b, .int .i64 (a % b)]) ∧ ∃ n, w' = w.drewN n := by
  have hb0 : (b == 0) = false := by simp; omega
  go_enter Try.func85, Try.ntmps85
  go_wp2
  go_quiet (fail)
  go_wp2
  go_ret2
  exact ⟨rfl, nq, rfl⟩

def gcdL (zs : List Int) : Nat := zs.foldl (fun g n => Nat.gcd g n.natAbs) 0

theorem gcdL_le (zs : List Int) (h : ∀ z ∈ zs, z.natAbs ≤ 9223372036854775808) : gcdL zs ≤ 9223372036854775808 := by
  unfold gcdL
  suffices H : ∀ (zs : List Int) (g : Nat), g ≤ 9223372036854775808 → (∀ z ∈ zs, z.natAbs ≤ 9223372036854775808) → zs.foldl (fun g n => Nat.gcd g n.natAbs) g ≤ 9223372036854775808 from H zs 0 (by omega) h
  intro zs
  induction zs with
  | nil => intro g hg _; exact hg
  | cons z zs ih =>
    intro g hg hz
    simp only [List.foldl_cons]
    refine ih _ ?_ (fun y hy => hz y (List.mem_cons_of_mem _ hy))
    have h1 := hz z (List.mem_cons_self ..)
    by_cases g0 : g = 0
    · subst g0; simp; exact h1
    · exact Nat.le_trans (Nat.gcd_le_left _ (by omega)) hg

theorem gcdL_snoc (zs : List Int) (z : Int) : gcdL (zs ++ [z]) = Nat.gcd (gcdL zs) z.natAbs := by
  unfold gcdL; simp

theorem gcdL_take (zs : List Int) (k : Nat) (h : k < zs.length) : gcdL (zs.take (k + 1)) = Nat.gcd (gcdL (zs.take k)) (zs[k]'h).natAbs := by
  rw [List.take_succ_eq_append_getElem h, gcdL_snoc]

set_option maxHeartbeats 1000000 in
set_option maxRecDepth 100000 in
theorem gcdAll_any (zs : List Int) (b : Nat) (cap : Nat) (w : World) (hlen : zs.length ≤ 1000)
    (hz : ∀ z ∈ zs, -9223372036854775808 ≤ z ∧ z ≤ 9223372036854775807)
    (hc : ∀ (k : Nat) (h : k < zs.length), w.cell? ⟨b, k, none⟩ = some (.int .i64 zs[k])) :
    Calls Try.prog 73 #[.slice (some ⟨b, 0, none⟩) zs.length cap] w fun e w' => e = .returned (.int .u64 (gcdL zs)) ∧ ∃ n, w' = w.drewN n := by
  have hzn : ∀ z ∈ zs, z.natAbs ≤ 9223372036854775808 := fun z h => by have := hz z h; omega
  have Hz := Lib.hid hz; clear hz
  have Hzn := Lib.hid hzn; clear hzn
  have Hc := Lib.hid hc; clear hc
  go_enter Try.func73, Try.ntmps73
  go_wp2
  go_loopw [3, 5, 6, 9] (fun g _ _ i wr => ∃ k : Nat, k ≤ zs.length ∧ i = .int .i64 k ∧ g = .int .u64 (gcdL (zs.take k)) ∧ ∃ n, wr = w.drewN n) (fun _ _ _ i _ => zs.length - (intOf i).toNat)
  case atStart => exact ⟨0, Nat.zero_le _, rfl, rfl, 0, rfl⟩
  case round =>
    obtain ⟨k, hk, rfl, rfl, nd, rfl⟩ := hrel
    by_cases hlt : k < zs.length
    · have hcell : w.cell? ⟨b, k, none⟩ = some (.int .i64 zs[k]) := Hc.out k hlt
      have hg := gcdL_le (zs.take k) (fun z h => Hzn.out z (List.mem_of_mem_take h))
      have hm := Hzn.out zs[k] (List.getElem_mem hlt)
      have hr := Hz.out zs[k] (List.getElem_mem hlt)
      have HT := Lib.hid (gcdL_take zs k hlt)
      go_wp2_with (go_at_call 96; refine (magnitude_any _ _ hr.1 hr.2).mono ?_; rintro e w' ⟨rfl, rfl⟩)
      have H63 := Lib.hid (show (magI zs[k]) = ((zs[k].natAbs : Nat) : Int) from rfl)
      go_loopw [3, 6] (fun g m wr => ∃ G M : Nat, g = .int .u64 G ∧ m = .int .u64 M ∧ RowKit.Hid (Nat.gcd G M = gcdL (zs.take (k + 1))) ∧ G ≤ 9223372036854775808 ∧ M ≤ 9223372036854775808 ∧ ∃ n, wr = w.drewN n) (fun _ m _ => (intOf m).toNat)
      case atStart => exact ⟨_, _, rfl, by rw [H63.out], HT.out.symm, hg, hm, nd, rfl⟩
      case round =>
        obtain ⟨G, M, rfl, rfl, HG, hG, hM, nd2, rfl⟩ := hrel
        by_cases hM0 : M = 0
        · subst hM0
          go_wp2
          go_roundw
          case rel => exact ⟨k + 1, by omega, by go_num, by rw [← HG.out, Nat.gcd_zero_right], nd2, rfl⟩
          case measure => simp [intOf]; omega
        · have hM1 : ((M : Int) != 0) = true := by simp; omega
          have hM2 : ((M : Int) == 0) = false := by simp; omega
          have hM3 : 0 < M := by omega
          have hMl := Nat.mod_lt G hM3
          go_wp2
          go_quiet (fail)
          go_wp2
          go_roundw
          case rel => exact ⟨M, G % M, rfl, by go_num, by show _ = _; rw [← HG.out, Nat.gcd_comm, ← Nat.gcd_rec, Nat.gcd_comm], by omega, by omega, nd2 + nq, by rw [World.drewN_drewN]⟩
          case measure => simp [intOf]; omega
    · go_wp2
      go_ret
      have hk' : k = zs.length := by omega
      exact ⟨ret_int (by rw [hk', List.take_length]), nd, rfl⟩

theorem gcdL_two (a b : Int) : gcdL [a, b] = Int.gcd a b := by
  unfold gcdL; simp [Int.gcd]

theorem gcdL_three (a b c : Int) : gcdL [a, b, c] = Nat.gcd (Int.gcd a b) c.natAbs := by
  unfold gcdL; simp [Int.gcd]

def leastB (n : Int) : Bool := decide (n = -9223372036854775808)

/-- The result of GcdOf. -/
def gcdV (a b : Int) : Int := if leastB a || leastB b then 0 else (Int.gcd a b : Int)

theorem gcd_lt (a b : Int) (h1 : -9223372036854775808 ≤ a) (h2 : a ≤ 9223372036854775807) (h3 : -9223372036854775808 ≤ b) (h4 : b ≤ 9223372036854775807) (ha : leastB a = false) (hb : leastB b = false) : Int.gcd a b ≤ 9223372036854775807 := by
  unfold leastB at ha hb
  simp at ha hb
  by_cases a0 : a = 0
  · subst a0; rw [Int.gcd_zero_left]; omega
  · have := Int.gcd_le_natAbs_left (b := b) a0
    omega

end Go.Proofs.Ythdaoadleeelnaa
