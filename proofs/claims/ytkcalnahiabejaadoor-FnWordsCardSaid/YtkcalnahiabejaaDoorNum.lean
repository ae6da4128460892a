/- Contracts of the program's and the reference's helpers on integers: each theorem says what one Go function returns for all integers, and that it leaves old memory alone. -/
import Derived.Test.YtkcalnahiabejaaDoorRows
import Derived.WalkKit
import Derived.WalkLawsBesides
import Derived.WalkSpells
import Derived.WalkSmall
import Derived.Deep.QuietTactic
import Derived.BigQuiet
import Derived.ProofKit
import Derived.Lib.Hide
import Derived.Deep.LoopGhost
import Derived.Deep.RegionHeld3
import Derived.Deep.DrawnRows
import Derived.Deep.DeepCutAuto
import Derived.Deep.DeepMust
import Derived.Outline
namespace Go.Proofs.YtkcalnahiabejaaDoor
open Go.ChangeShapes Go.WideShapes Go.ChangeAt Go.RowKit
attribute [local go_sem ↓] Go.wp_at_zero Go.wp_at_succ
set_option linter.unusedVariables false

theorem ret_int {k : IntKind} {a b : Int} (h : a = b) : Ending.returned (.int k a) = .returned (.int k b) := by rw [h]

theorem ret_bool {a b : Bool} (h : a = b) : Ending.returned (.bool a) = .returned (.bool b) := by rw [h]

theorem bcell {W w1 : World} (hb : Below W.heap.size W w1) : (∀ b o, b < W.heap.size → w1.cell? ⟨b, o, none⟩ = W.cell? ⟨b, o, none⟩) ∧ (∀ b o, b < W.heap.size → w1.frozen? ⟨b, o, none⟩ = W.frozen? ⟨b, o, none⟩) :=
  ⟨fun b o h => hb.cell (p := ⟨b, o, none⟩) h, fun b o h => hb.frozen (p := ⟨b, o, none⟩) h⟩

theorem cell_keep {W w1 : World} {p : Addr} {v : Value} (hb : Below W.heap.size W w1) (h : W.cell? p = some v) (hp : p.block < W.heap.size) : w1.cell? p = some v := by rw [hb.cell hp]; exact h

theorem frozen_keep {W w1 : World} {p : Addr} (hb : Below W.heap.size W w1) (h : W.frozen? p = false) (hp : p.block < W.heap.size) : w1.frozen? p = false := by rw [hb.frozen hp]; exact h

theorem S_below {B : Nat} {w W w1 : World} (hb : Below W.heap.size W w1) (h : Below B w W) (hB : B ≤ W.heap.size) : Below B w w1 := h.trans (hb.mono hB)

theorem S_lt {n : Nat} {W w1 : World} (hb : Below W.heap.size W w1) (h : n < W.heap.size) : n < w1.heap.size := Nat.lt_of_lt_of_le h hb.size

theorem S_realloc {B : Nat} {w W : World} {o o' : Obj} (h : Below B w (W.alloc o)) (hB : B ≤ W.heap.size) : Below B w (W.alloc o') := by
  refine ⟨h.os, h.tape, h.output, by have := h.size; simp only [World.size_alloc] at *; exact this, fun k hk => ?_⟩
  have h1 := h.block k hk
  rw [Below.heap_alloc _ _ _ (by omega)] at h1 ⊢
  exact h1

theorem S_size {n : Nat} {W w1 : World} (hb : Below W.heap.size W w1) (h : n ≤ W.heap.size) : n ≤ w1.heap.size := Nat.le_trans h hb.size

theorem set_0 {w : World} {b : Nat} {u : Value} (h : w.cell? ⟨b, 0, none⟩ = some u) (v : Value) : (w.setCell ⟨b, 0, none⟩ v).cell? ⟨b, 0, none⟩ = some v := World.cell?_setCell_same _ _ _ h

theorem set2_1 {w : World} {b : Nat} {u : Value} (h : w.cell? ⟨b, 1, none⟩ = some u) (v0 v : Value) : ((w.setCell ⟨b, 0, none⟩ v0).setCell ⟨b, 1, none⟩ v).cell? ⟨b, 1, none⟩ = some v := by
  refine World.cell?_setCell_same (u := u) _ _ _ ?_
  rw [World.cell?_setCell_other _ _ _ _ (by simp)]; exact h

theorem set3_2 {w : World} {b : Nat} {u : Value} (h : w.cell? ⟨b, 2, none⟩ = some u) (v0 v1 v : Value) : (((w.setCell ⟨b, 0, none⟩ v0).setCell ⟨b, 1, none⟩ v1).setCell ⟨b, 2, none⟩ v).cell? ⟨b, 2, none⟩ = some v := by
  refine World.cell?_setCell_same (u := u) _ _ _ ?_
  rw [World.cell?_setCell_other _ _ _ _ (by simp), World.cell?_setCell_other _ _ _ _ (by simp)]; exact h

theorem quiet_add_same {P : Program} {f : FuncId} {args : Array Value} {w : World} {a n : Nat} {v : Value}
    (h : Calls P f args (w.drewN (a + n)) fun e w' => e = .returned v ∧ w' = w.drewN (a + n)) :
    Calls P f args (w.drewN (a + n)) fun e w'' => e = .returned v ∧ ∃ m, w'' = w.drewN (a + m) :=
  h.mono fun _ _ ⟨he, hm⟩ => ⟨he, n, hm⟩

theorem quiet_add {P : Program} {f : FuncId} {args : Array Value} {w : World} {a n : Nat} {v : Value}
    (h : Calls P f args (w.drewN (a + n)) fun e w' => e = .returned v ∧ ∃ m, w' = (w.drewN (a + n)).drewN m) :
    Calls P f args (w.drewN (a + n)) fun e w'' => e = .returned v ∧ ∃ m, w'' = w.drewN (a + m) :=
  h.mono fun _ _ ⟨he, m, hm⟩ => ⟨he, n + m, by rw [hm, World.drewN_drewN, Nat.add_assoc]⟩

/-- x is an int. -/
def I64 (x : Int) : Prop := -9223372036854775808 ≤ x ∧ x ≤ 9223372036854775807

def magI (n : Int) : Int := (n.natAbs : Int)

theorem magI_neg (n : Int) (h1 : -9223372036854775808 ≤ n) (hn : n < 0) : IntKind.u64.wrap (-IntKind.u64.wrap n) = magI n := by
  unfold magI
  have e : IntKind.u64.wrap n = n + 18446744073709551616 := by
    unfold IntKind.wrap; simp [IntKind.bits, IntKind.signed]; omega
  rw [e]; unfold IntKind.wrap; simp [IntKind.bits, IntKind.signed]; omega

def gcdL (zs : List Int) : Nat := zs.foldl (fun g n => Nat.gcd g n.natAbs) 0

theorem gcdL_le (zs : List Int) (h : ∀ z ∈ zs, z.natAbs ≤ 9223372036854775808) : gcdL zs ≤ 9223372036854775808 := by
  unfold gcdL
  suffices H : ∀ (zs : List Int) (g : Nat), g ≤ 9223372036854775808 → (∀ z ∈ zs, z.natAbs ≤ 9223372036854775808) → zs.foldl (fun g n => Nat.gcd g n.natAbs) g ≤ 9223372036854775808 from H zs 0 (by omega) h
  intro zs
  induction zs with
  | nil => intro g hg _; exact hg
  | cons z zs ih =>
    intro g hg hz
    simp only [List.foldl_cons]
    refine ih _ ?_ (fun y hy => hz y (List.mem_cons_of_mem _ hy))
    have h1 := hz z (List.mem_cons_self ..)
    by_cases g0 : g = 0
    · subst g0; simp; exact h1
    · exact Nat.le_trans (Nat.gcd_le_left _ (by omega)) hg

theorem gcdL_snoc (zs : List Int) (z : Int) : gcdL (zs ++ [z]) = Nat.gcd (gcdL zs) z.natAbs := by
  unfold gcdL; simp

theorem gcdL_take (zs : List Int) (k : Nat) (h : k < zs.length) : gcdL (zs.take (k + 1)) = Nat.gcd (gcdL (zs.take k)) (zs[k]'h).natAbs := by
  rw [List.take_succ_eq_append_getElem h, gcdL_snoc]

theorem gcdL_two (a b : Int) : gcdL [a, b] = Int.gcd a b := by
  unfold gcdL; simp [Int.gcd]

theorem gcdL_three (a b c : Int) : gcdL [a, b, c] = Nat.gcd (Int.gcd a b) c.natAbs := by
  unfold gcdL; simp [Int.gcd]

def leastB (n : Int) : Bool := decide (n = -9223372036854775808)

/-- The result of GcdOf. -/
def gcdV (a b : Int) : Int := if leastB a || leastB b then 0 else (Int.gcd a b : Int)

theorem gcd_lt (a b : Int) (h1 : -9223372036854775808 ≤ a) (h2 : a ≤ 9223372036854775807) (h3 : -9223372036854775808 ≤ b) (h4 : b ≤ 9223372036854775807) (ha : leastB a = false) (hb : leastB b = false) : Int.gcd a b ≤ 9223372036854775807 := by
  unfold leastB at ha hb
  simp at ha hb
  by_cases a0 : a = 0
  · subst a0; rw [Int.gcd_zero_left]; omega
  · have := Int.gcd_le_natAbs_left (b := b) a0
    omega

end Go.Proofs.YtkcalnahiabejaaDoor
