/- FormatInt, of the program and of the reference. -/
import Derived.Test.YtkmfejdmdiemaaaDoorStrs3
import Derived.Test.YtkmfejdmdiemaaaDoorShelf
import Derived.IntWalk
import Derived.Lib.SmallJoins
namespace Go.Proofs.YtkmfejdmdiemaaaDoor
open Go.ChangeShapes Go.WideShapes Go.ChangeAt Go.RowKit
attribute [local go_sem ↓] Go.wp_at_zero Go.wp_at_succ
set_option linter.unusedVariables false

theorem ret_str {a b : ByteArray} (h : a = b) : Ending.returned (.string a) = .returned (.string b) := by rw [h]

/-- The digits' loop of a number that is not negative: j is what is left, r is what was written. -/
def DecAt (n j : Nat) (r : List UInt8) : Prop := Lib.decDigits j ++ r = Lib.decDigits n ∧ j ≤ n

theorem decAt_step {n j : Nat} {r : List UInt8} (h : DecAt n j r) (hj : ¬ j < 10) : DecAt n (j / 10) ([UInt8.ofNat (48 + j % 10)] ++ r) := by
  obtain ⟨h1, h2⟩ := h
  refine ⟨?_, by omega⟩
  rw [dec_big hj] at h1
  simpa using h1

theorem decAt_len {n j : Nat} {r : List UInt8} (h : DecAt n j r) (hn : n ≤ 9223372036854775807) : r.length ≤ 20 := by
  have hd : (Lib.decDigits n).length ≤ 20 := by rw [Lib.decDigits_length]; exact Lib.nDigits_le20 n (by omega)
  have := congrArg List.length h.1
  rw [List.length_append] at this
  omega

def fmtV (n : Int) : ByteArray := bs (Lib.itoa n)

theorem fmtV_size {n : Int} (h1 : -9223372036854775808 ≤ n) (h2 : n ≤ 9223372036854775807) : (fmtV n).size ≤ 21 := by
  unfold fmtV; rw [bs_size]; exact Lib.itoa_length_le n h1 h2

/-- The byte of a digit. -/
theorem dgV {d : Nat} (h : d < 10) {v : Int} (hv : v = 48 + (d : Int)) : v = ((UInt8.ofNat (48 + d)).toNat : Int) := by
  rw [dg_byte h]; omega

theorem conv1' (v : Int) (b : UInt8) (hv : v = b.toNat) : ∀ (W : World) (g : Nat), W.cell? ⟨g, 0, none⟩ = some (.int .u8 v) → (convert 41 9 (.slice (some ⟨g, 0, none⟩) 1 1)).run Tryd.prog W = .ok (.string (bs [b])) W :=
  fun W g hc => conv1 W 41 9 5 g 1 v b Tryd.underlying41 Tryd.underlying5 Tryd.underlying9 hv hc

theorem neg_parts {n : Int} (h : n < 0) (h1 : -9223372036854775808 ≤ n) : ∃ q r : Int, n.tdiv 10 = q ∧ n.tmod 10 = r ∧ q ≤ 0 ∧ -922337203685477580 ≤ q ∧ -9 ≤ r ∧ r ≤ 0 ∧ n = q * 10 + r := by
  obtain ⟨u, rfl⟩ : ∃ u : Nat, n = -(u : Int) := ⟨n.natAbs, by omega⟩
  have e1 : (-(u : Int)).tdiv 10 = -((u / 10 : Nat) : Int) := by rw [Int.neg_tdiv, Int.tdiv_eq_ediv_of_nonneg (by omega)]; omega
  have e2 : (-(u : Int)).tmod 10 = -((u % 10 : Nat) : Int) := by rw [Int.neg_tmod, Int.tmod_eq_emod_of_nonneg (by omega)]; omega
  exact ⟨_, _, e1, e2, by omega, by omega, by omega, by omega, by omega⟩

set_option maxHeartbeats 2000000 in
set_option maxRecDepth 100000 in
theorem sFormatInt_any : ∀ (k : Nat) (n : Int) (w : World), n.natAbs ≤ k → -9223372036854775808 ≤ n → n ≤ 9223372036854775807 →
    Calls Tryd.prog 37 #[.int .i64 n] w fun e w' => e = .returned (.string (fmtV n)) ∧ Below w.heap.size w w' := by
  intro k
  induction k using Nat.strongRecOn with
  | _ k ih =>
    intro n w hk h1 h2
    by_cases hn : n < 0
    · obtain ⟨q, r, hq, hr, q1, q2, r1, r2, hqr⟩ := neg_parts hn h1
      by_cases hq0 : q = 0
      · have HV := Lib.hid (show fmtV n = bs [45] ++ bs [UInt8.ofNat (48 + (-n).toNat)] by
          unfold fmtV; rw [itoa_neg_small hn (by rw [hq]; exact hq0), bs_append]; rfl)
        have hcv := conv1' (48 - n) (UInt8.ofNat (48 + (-n).toNat)) (dgV (d := (-n).toNat) (by omega) (by omega)) (w.alloc (.cells #[.int .u8 (48 - n)] 5)) w.heap.size (by first | (go_simp; done) | (simp; done))
        have hn9 : -9 ≤ n := by omega
        generalize UInt8.ofNat (48 + (-n).toNat) = b1 at *
        have hz : ¬ 9223372036854775807 < (ByteArray.mk #[45]).size + (bs [b1]).size := by rw [bs_size]; simp [ByteArray.size]
        clear ih hk hqr hr r1 r2 q1 q2 
        go_enter Tryd.func37, Tryd.ntmps37
        go_wp2_with fail
        go_ret
        exact ⟨ret_str HV.out.symm, (by repeat (first | exact Below.refl _ _ | assumption | refine below_drewN ?_ _ | refine Below.drew ?_ | refine Below.alloc ?_ (by first | omega | (simp <;> omega)) _ | refine Below.setCell ?_ (by first | omega | (simp <;> omega)) _))⟩
      · have HV := Lib.hid (show fmtV n = fmtV q ++ bs [UInt8.ofNat (48 + (-r).toNat)] by
          unfold fmtV; rw [itoa_neg_big hn (by rw [hq]; exact hq0), hq, hr, bs_append])
        have IH := Lib.hid (fun W => ih q.natAbs (by omega) q W (Nat.le_refl _) (by omega) (by omega))
        have HD := Lib.hid (dgV (d := (-r).toNat) (v := 48 - r) (by omega) (by omega))
        have hz : ¬ 9223372036854775807 < (fmtV q).size + (bs [UInt8.ofNat (48 + (-r).toNat)]).size := by
          have := fmtV_size (n := q) (by omega) (by omega)
          rw [bs_size]; simp; omega
        have hcA := conv1' (48 - r) _ HD.out ((w.alloc (.cells #[.int .u8 (48 - r)] 5)).drew) w.heap.size (by first | (go_simp; done) | (simp; done))
        generalize UInt8.ofNat (48 + (-r).toNat) = b1 at *
        clear ih hk hqr
        go_enter Tryd.func37, Tryd.ntmps37
        go_wp2_with fail
        have hwq : IntKind.i64.wrap q = q := IntWalk.i64_in _ (by omega)
        have hws : IntKind.i64.wrap (48 - r) = 48 - r := IntWalk.i64_in _ (by omega)
        have hwu : IntKind.u8.wrap (48 - r) = 48 - r := by rw [IntKind.wrap_u8]; omega
        go_region_with (first
          | (go_at_call 37; (with_reducible refine (IH.out _).mono ?_); rintro e w1 ⟨rfl, hb1⟩; have hS1 : Below w.heap.size w w1 := S_below hb1 (by repeat (first | exact Below.refl _ _ | assumption | refine below_drewN ?_ _ | refine Below.drew ?_ | refine Below.alloc ?_ (by first | omega | (simp <;> omega)) _ | refine Below.setCell ?_ (by first | omega | (simp <;> omega)) _)) (by first | omega | (simp <;> omega)); have hs1 : w.heap.size ≤ w1.heap.size := hS1.size; have hcB := conv1' (48 - r) _ HD.out (w1.alloc (.cells #[.int .u8 (48 - r)] 5)) w1.heap.size (by first | (go_simp; done) | (simp; done)); (first | (have hcc : w1.cell? ⟨w.heap.size, 0, none⟩ = some (.int .u8 (48 - r)) := ?_; rotate_left; (focus (refine cell_keep hb1 ?_ ?_ <;> first | (go_simp; done) | (simp; done))); have hcC := conv1' (48 - r) _ HD.out w1 w.heap.size hcc) | skip); clear hb1))
        all_goals
          go_wp2_with fail
          go_ret
          exact ⟨ret_str HV.out.symm, (by repeat (first | exact Below.refl _ _ | assumption | refine below_drewN ?_ _ | refine Below.drew ?_ | refine Below.alloc ?_ (by first | omega | (simp <;> omega)) _ | refine Below.setCell ?_ (by first | omega | (simp <;> omega)) _))⟩
    · obtain ⟨u, rfl⟩ : ∃ u : Nat, n = (u : Int) := ⟨n.toNat, by omega⟩
      clear ih hk h1 hn
      go_enter Tryd.func37, Tryd.ntmps37
      go_wp2_with fail
      go_loopw [0, 3] (fun i s wr => ∃ (j : Nat) (r : List UInt8), i = .int .i64 j ∧ s = .string (bs r) ∧ RowKit.Hid (DecAt u j r) ∧ Below w.heap.size w wr) (fun i _ _ => (intOf i).toNat)
      case atStart => exact ⟨u, [], rfl, rfl, ⟨by simp, Nat.le_refl _⟩, Below.refl _ _⟩
      case round =>
        obtain ⟨j, r, rfl, rfl, HD, hb⟩ := hrel
        have hjn : j ≤ u := HD.out.2
        have hsz := hb.size
        have hl := decAt_len HD.out (by omega)
        by_cases hj : j < 10
        · have hc := conv1' (48 + (j : Int)) (UInt8.ofNat (48 + j)) (dgV hj rfl) (wr.alloc (.cells #[.int .u8 (48 + (j : Int))] 5)) wr.heap.size (by first | (go_simp; done) | (simp; done))
          have HV := Lib.hid (show fmtV u = bs [UInt8.ofNat (48 + j)] ++ bs r by
            unfold fmtV; rw [Lib.itoa_nonneg, ← HD.out.1, dec_small hj, bs_append])
          have hz : ¬ 9223372036854775807 < (bs [UInt8.ofNat (48 + j)]).size + (bs r).size := by rw [bs_size, bs_size]; simp; omega
          generalize UInt8.ofNat (48 + j) = b1 at *
          go_wp2_with fail
          go_ret
          exact ⟨ret_str HV.out.symm, (by repeat (first | exact Below.refl _ _ | assumption | refine below_drewN ?_ _ | refine Below.drew ?_ | refine Below.alloc ?_ (by first | omega | (simp <;> omega)) _ | refine Below.setCell ?_ (by first | omega | (simp <;> omega)) _))⟩
        · have hc := conv1' (48 + (j : Int) % 10) (UInt8.ofNat (48 + j % 10)) (dgV (d := j % 10) (by omega) (by omega)) (wr.alloc (.cells #[.int .u8 (48 + (j : Int) % 10)] 5)) wr.heap.size (by first | (go_simp; done) | (simp; done))
          have HS := Lib.hid (decAt_step HD.out hj)
          have hz : ¬ 9223372036854775807 < (bs [UInt8.ofNat (48 + j % 10)]).size + (bs r).size := by rw [bs_size, bs_size]; simp; omega
          generalize UInt8.ofNat (48 + j % 10) = b1 at *
          go_wp2_with fail
          go_roundw
          case rel => exact ⟨j / 10, _, by go_num, by rw [bs_append], HS, (by repeat (first | exact Below.refl _ _ | assumption | refine below_drewN ?_ _ | refine Below.drew ?_ | refine Below.alloc ?_ (by first | omega | (simp <;> omega)) _ | refine Below.setCell ?_ (by first | omega | (simp <;> omega)) _))⟩
          case measure => simp [intOf]; omega

theorem sFormatInt_lit {n : Int} {s : ByteArray} (h : fmtV n = s) (w : World) (h1 : -9223372036854775808 ≤ n) (h2 : n ≤ 9223372036854775807) :
    Calls Tryd.prog 37 #[.int .i64 n] w fun e w' => e = .returned (.string s) ∧ Below w.heap.size w w' := by
  subst h; exact sFormatInt_any n.natAbs n w (Nat.le_refl _) h1 h2

/-- The table that strconv reads. -/
def Tab10 (w : World) : Prop := Lib.TabIs Tryd.prog w "internal/strconv.uint64pow10" .u64 Lib.pow10Tab

theorem gTab10 : Tryd.prog.globalNamed "internal/strconv.uint64pow10" = some 3 := by kernel_rfl

theorem Tab10.step {w w' : World} (h : Tab10 w) (hb : Below w.heap.size w w') : Tab10 w' := Joins.tab_stays gTab10 h hb (Nat.le_refl _)

theorem grow_below (w : World) (k : Nat) (os : Array Obj) : Below w.heap.size w (Sort.grow (w.drewN k) os) :=
  ⟨rfl, rfl, rfl, by simp [Sort.grow], fun j hj => by simp [Sort.grow, Array.getElem?_append, hj]⟩

theorem iFormatInt_lit {n : Int} {s : ByteArray} (h : fmtV n = s) (w : World) (ht : Tab10 w) (h1 : -9223372036854775808 ≤ n) (h2 : n ≤ 9223372036854775807) :
    Calls Tryd.prog 38 #[.int .i64 n] w fun e w' => e = .returned (.string s) ∧ Below w.heap.size w w' := by
  have HT := Lib.hid ht; clear ht
  have HS := Lib.hid h; clear h
  go_enter Tryd.func38, Tryd.ntmps38
  go_wp2_with fail
  go_at_call 62; refine (Tryd.strconv_Itoa n h1 h2 _ HT.out).mono ?_; rintro e w1 ⟨rfl, kk, os, rfl⟩
  go_wp2_with fail
  go_ret
  exact ⟨ret_str HS.out, grow_below _ _ _⟩

end Go.Proofs.YtkmfejdmdiemaaaDoor
