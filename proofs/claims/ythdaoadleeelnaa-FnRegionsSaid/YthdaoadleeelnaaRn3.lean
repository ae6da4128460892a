/- l05Inside of the reference: does a point lie in the frame and in all half planes? -/
import Derived.Test.YthdaoadleeelnaaRn2
namespace Go.Proofs.Ythdaoadleeelnaa
open Go.ChangeShapes Go.WideShapes Go.ChangeAt Go.RowKit
attribute [local go_sem ↓] Go.wp_at_zero Go.wp_at_succ
set_option linter.unusedVariables false

def frmV (x y d : Int) : Prop := d ≠ 0 ∧ x ≤ 1000 * d ∧ -1000 * d ≤ x ∧ y ≤ 1000 * d ∧ -1000 * d ≤ y
instance (x y d : Int) : Decidable (frmV x y d) := by unfold frmV; infer_instance

def inG (x y d : Int) (g : Hp) : Bool := decide (g.1 * x + g.2.1 * y ≤ g.2.2 * d)
/-- l05Inside's result. -/
def insV (hs : List Hp) (x y d : Int) : Bool := decide (frmV x y d) && hs.all (inG x y d)

theorem insV_out {hs : List Hp} {x y d : Int} (h : ¬ frmV x y d) : insV hs x y d = false := by unfold insV; rw [decide_eq_false h]; rfl

theorem ing_step {hs : List Hp} {p : Hp → Bool} {k : Nat} (h : (hs.take k).all p = true) (hk : k < hs.length) (ho : p hs[k] = true) : (hs.take (k + 1)).all p = true := by
  rw [List.take_succ_eq_append_getElem hk, List.all_append, h]; simp [ho]

theorem ing_not {hs : List Hp} {p : Hp → Bool} {k : Nat} (hk : k < hs.length) (ho : p hs[k] = false) : hs.all p = false := by
  rw [List.all_eq_false]; exact ⟨hs[k], List.getElem_mem hk, by rw [ho]; simp⟩

theorem ing_end {hs : List Hp} {p : Hp → Bool} {k : Nat} (h : (hs.take k).all p = true) (hk : ¬ k < hs.length) : hs.all p = true := by
  rwa [List.take_of_length_le (by omega)] at h

theorem insV_all {hs : List Hp} {x y d : Int} (h : frmV x y d) : insV hs x y d = hs.all (inG x y d) := by unfold insV; rw [decide_eq_true h]; rfl

set_option maxHeartbeats 1000000 in
set_option maxRecDepth 100000 in
theorem l05Inside_any (A : Option Addr) (n c : Nat) (hs : List Hp) (x y d : Int) (w : World) (hn : n = hs.length) (hA : HsAt w w.heap.size A hs) (hm : n ≤ 1048576) (hok : ∀ h ∈ hs, okH h = true)
    (d1 : 0 ≤ d) (d2 : d ≤ 5000000000) (x1 : -20000000000000 ≤ x) (x2 : x ≤ 20000000000000) (y1 : -20000000000000 ≤ y) (y2 : y ≤ 20000000000000) :
    Calls Try.prog 83 #[.slice A n c, .agg #[.int .i64 x, .int .i64 y, .int .i64 d]] w fun e w' => e = .returned (.bool (insV hs x y d)) ∧ Below w.heap.size w w' := by
  have HA := Lib.hid hA; clear hA
  have HN := Lib.hid hn; clear hn
  have HK := Lib.hid hok; clear hok
  by_cases hf : frmV x y d
  · have hf' := hf
    unfold frmV at hf'
    obtain ⟨f0, f1, f2, f3, f4⟩ := hf'
    rw [insV_all hf]
    clear hf
    have fb : (d == 0) = false := by simpa using f0
    go_enter Try.func83, Try.ntmps83
    go_wp2_with fail
    go_loopw [51] (fun i wr => ∃ k : Nat, k ≤ n ∧ i = .int .i64 k ∧ RowKit.Hid ((hs.take k).all (inG x y d) = true) ∧ wr.cell? ⟨w.heap.size, 0, none⟩ = some (.int .i64 x) ∧ wr.cell? ⟨w.heap.size, 1, none⟩ = some (.int .i64 y) ∧ wr.cell? ⟨w.heap.size, 2, none⟩ = some (.int .i64 d) ∧ w.heap.size + 1 ≤ wr.heap.size ∧ Below w.heap.size w wr) (fun i _ => n - (intOf i).toNat)
    case atStart => exact ⟨0, Nat.zero_le _, rfl, (rfl : List.all [] (inG x y d) = true), by first | (go_simp; done) | (simp; done), by first | (go_simp; done) | (simp; done), by first | (go_simp; done) | (simp; done), by simp, (by repeat (first | exact Below.refl _ _ | assumption | refine below_drewN ?_ _ | refine Below.drew ?_ | refine Below.alloc ?_ (by first | omega | (simp <;> omega)) _ | refine Below.setCell ?_ (by first | omega | (simp <;> omega)) _))⟩
    case round =>
      obtain ⟨k, hk, rfl, HE, p0, p1, p2, hz, hb⟩ := hrel
      by_cases hlt : k < n
      · have hl1 : k < hs.length := by have := HN.out; omega
        obtain ⟨b, off, rfl, hlb, c0, c1, c2⟩ := (HA.out.below hb).at_ hl1
        have hlb' : b < wr.heap.size := by omega
        have n1 : ¬ w.heap.size = wr.heap.size := by omega
        have n2 : ¬ wr.heap.size = w.heap.size := by omega
        have g0 : ∀ o : Obj, (wr.alloc o).cell? ⟨w.heap.size, 0, none⟩ = some (.int .i64 x) := fun o => (World.cell?_alloc_lt wr o ⟨w.heap.size, 0, none⟩ (by simp; omega)).trans p0
        have g1 : ∀ o : Obj, (wr.alloc o).cell? ⟨w.heap.size, 1, none⟩ = some (.int .i64 y) := fun o => (World.cell?_alloc_lt wr o ⟨w.heap.size, 1, none⟩ (by simp; omega)).trans p1
        have g2 : ∀ o : Obj, (wr.alloc o).cell? ⟨w.heap.size, 2, none⟩ = some (.int .i64 d) := fun o => (World.cell?_alloc_lt wr o ⟨w.heap.size, 2, none⟩ (by simp; omega)).trans p2
        obtain ⟨⟨a1, a2⟩, ⟨b1, b2⟩, e1, e2⟩ := okH_bounds (HK.out _ (List.getElem_mem hl1))
        cases ho : inG x y d hs[k]
        · have HV := Lib.hid (ing_not hl1 ho)
          unfold inG at ho
          generalize hs[k] = h at *
          obtain ⟨h0, h1, h2⟩ := h
          simp only at c0 c1 c2 ho a1 a2 b1 b2 e1 e2
          have hlt2 : ¬ h0 * x + h1 * y ≤ h2 * d := by simpa using ho
          clear ho
          have m1 := mul_range h0 x 50000 20000000000000 (by omega) (by omega) (by omega) (by omega)
          have m2 := mul_range h1 y 50000 20000000000000 (by omega) (by omega) (by omega) (by omega)
          have m3 := mul_range h2 d 100000000 5000000000 (by omega) (by omega) (by omega) (by omega)
          go_wp2_with fail
          go_ret
          exact ⟨ret_bool HV.out.symm, (by repeat (first | exact Below.refl _ _ | assumption | refine below_drewN ?_ _ | refine Below.drew ?_ | refine Below.alloc ?_ (by first | omega | (simp <;> omega)) _ | refine Below.setCell ?_ (by first | omega | (simp <;> omega)) _))⟩
        · have HV := Lib.hid (ing_step HE.out hl1 ho)
          unfold inG at ho
          generalize hs[k] = h at *
          obtain ⟨h0, h1, h2⟩ := h
          simp only at c0 c1 c2 ho a1 a2 b1 b2 e1 e2
          have hlt2 : h0 * x + h1 * y ≤ h2 * d := by simpa using ho
          clear ho
          have m1 := mul_range h0 x 50000 20000000000000 (by omega) (by omega) (by omega) (by omega)
          have m2 := mul_range h1 y 50000 20000000000000 (by omega) (by omega) (by omega) (by omega)
          have m3 := mul_range h2 d 100000000 5000000000 (by omega) (by omega) (by omega) (by omega)
          go_wp2_with fail
          go_roundw
          case rel => exact ⟨k + 1, by omega, by go_num, HV, by first | exact g0 _ | (go_simp; done), by first | exact g1 _ | (go_simp; done), by first | exact g2 _ | (go_simp; done), by simp; omega, (by repeat (first | exact Below.refl _ _ | assumption | refine below_drewN ?_ _ | refine Below.drew ?_ | refine Below.alloc ?_ (by first | omega | (simp <;> omega)) _ | refine Below.setCell ?_ (by first | omega | (simp <;> omega)) _))⟩
          case measure => simp [intOf]; omega
      · have HV := Lib.hid (ing_end HE.out (by have := HN.out; omega))
        go_wp2_with fail
        go_ret
        exact ⟨ret_bool HV.out.symm, hb⟩
  · have HV := Lib.hid (insV_out (hs := hs) hf)
    have hc : d = 0 ∨ (¬ d = 0 ∧ 1000 * d < x) ∨ (¬ d = 0 ∧ x ≤ 1000 * d ∧ x < -1000 * d) ∨ (¬ d = 0 ∧ x ≤ 1000 * d ∧ -1000 * d ≤ x ∧ 1000 * d < y) ∨ (¬ d = 0 ∧ x ≤ 1000 * d ∧ -1000 * d ≤ x ∧ y ≤ 1000 * d ∧ y < -1000 * d) := by unfold frmV at hf; omega
    clear hf
    rcases hc with h | ⟨h, h1⟩ | ⟨h, h1, h2⟩ | ⟨h, h1, h2, h3⟩ | ⟨h, h1, h2, h3, h4⟩
    all_goals
      go_enter Try.func83, Try.ntmps83
      go_wp2_with fail
      go_ret
      exact ⟨ret_bool HV.out.symm, (by repeat (first | exact Below.refl _ _ | assumption | refine below_drewN ?_ _ | refine Below.drew ?_ | refine Below.alloc ?_ (by first | omega | (simp <;> omega)) _ | refine Below.setCell ?_ (by first | omega | (simp <;> omega)) _))⟩

end Go.Proofs.Ythdaoadleeelnaa
