/- Marks: the text of a number, slices of strings marked and read again. -/
import Derived.Test.YtkcalnahiabejaaDoorStrs2
import Derived.Test.YtkcalnahiabejaaDoorQb
import Derived.Laws.IdiomStrings
namespace Go.Proofs.YtkcalnahiabejaaDoor
open Go.ChangeShapes Go.WideShapes Go.ChangeAt Go.RowKit
attribute [local go_sem ↓] Go.wp_at_zero Go.wp_at_succ
set_option linter.unusedVariables false

/-- A moment of the digits' loop: j is what is left, r is what was written. -/
def DigAt (n j : Nat) (r : List UInt8) : Prop := (j = 0 → r = Lib.decDigits n) ∧ (0 < j → Lib.decDigits j ++ r = Lib.decDigits n) ∧ j ≤ n

theorem digAt_start (n : Nat) (h : 0 < n) : DigAt n n [] := ⟨fun e => by omega, fun _ => by simp, Nat.le_refl _⟩

theorem digAt_step {n j : Nat} {r : List UInt8} (h : DigAt n j r) (hj : 0 < j) : DigAt n (j / 10) ([UInt8.ofNat (48 + j % 10)] ++ r) := by
  obtain ⟨_, h2, h3⟩ := h
  have h2 := h2 hj
  refine ⟨fun e => ?_, fun hp => ?_, by omega⟩
  · rw [dec_small (by omega)] at h2
    rw [show j % 10 = j by omega]; exact h2
  · rw [dec_big (by omega)] at h2
    simpa using h2

theorem digAt_len {n j : Nat} {r : List UInt8} (h : DigAt n j r) (hn : n ≤ 9223372036854775807) : r.length ≤ 20 := by
  have hd : (Lib.decDigits n).length ≤ 20 := by rw [Lib.decDigits_length]; exact Lib.nDigits_le20 n (by omega)
  rcases Nat.eq_zero_or_pos j with e | hp
  · rw [h.1 e]; exact hd
  · have := congrArg List.length (h.2.1 hp)
    rw [List.length_append] at this
    omega

theorem conv1 {P : Program} (w : World) (src dst e : TypeId) (g c : Nat) (v : Int) (b : UInt8) (hs : P.underlying src = some (.slice e)) (he : P.underlying e = some (.int .u8)) (hd : P.underlying dst = some .string)
    (hv : v = b.toNat) (hc : w.cell? ⟨g, 0, none⟩ = some (.int .u8 v)) : (convert src dst (.slice (some ⟨g, 0, none⟩) 1 c)).run P w = .ok (.string (bs [b])) w := by
  subst hv
  refine run_convert_bytes_back w src dst e ⟨g, 0, none⟩ c [b] hs he hd (fun j hj => ?_)
  have hj : j = 0 := by simpa using hj
  subst hj
  exact hc

set_option maxHeartbeats 1000000 in
theorem markText_any (n : Nat) (w : World) (h1 : 0 < n) (h2 : n ≤ 9223372036854775807) :
    Calls Tryd.prog 23 #[.int .i64 n] w fun e w' => e = .returned (.string (markV n)) ∧ Below w.heap.size w w' := by
  go_enter Tryd.func23, Tryd.ntmps23
  go_wp2_with fail
  go_loopw [0, 3] (fun i s wr => ∃ (j : Nat) (r : List UInt8), i = .int .i64 j ∧ s = .string (bs r) ∧ RowKit.Hid (DigAt n j r) ∧ Below w.heap.size w wr) (fun i _ _ => (intOf i).toNat)
  case atStart => exact ⟨n, [], rfl, rfl, digAt_start n h1, Below.refl _ _⟩
  case round =>
    obtain ⟨j, r, rfl, rfl, HD, hb⟩ := hrel
    have hjn : j ≤ n := HD.out.2.2
    have hsz := hb.size
    by_cases hj : 0 < j
    · have hc := conv1 (P := Tryd.prog) (wr.alloc (.cells #[.int .u8 (48 + (j : Int) % 10)] 5)) 31 9 5 wr.heap.size 1 (48 + (j : Int) % 10) (UInt8.ofNat (48 + j % 10)) Tryd.underlying31 Tryd.underlying5 Tryd.underlying9 (by rw [dg_byte (by omega)]; omega) (by first | (go_simp; done) | (simp; done))
      have HS := Lib.hid (digAt_step HD.out hj)
      have hl := digAt_len HD.out h2
      have hz : ¬ 9223372036854775807 < (bs [UInt8.ofNat (48 + j % 10)]).size + (bs r).size := by rw [bs_size, bs_size]; simp; omega
      generalize UInt8.ofNat (48 + j % 10) = b1 at *
      go_wp2
      go_roundw
      case rel => exact ⟨j / 10, _, by go_num, by rw [bs_append], HS, (by repeat (first | exact Below.refl _ _ | assumption | refine below_drewN ?_ _ | refine Below.drew ?_ | refine Below.alloc ?_ (by first | omega | (simp <;> omega)) _ | refine Below.setCell ?_ (by first | omega | (simp <;> omega)) _))⟩
      case measure => simp [intOf]; omega
    · have hj0 : j = 0 := by omega
      have hl := digAt_len HD.out h2
      have hz : ¬ 9223372036854775807 < (ByteArray.mk #[109]).size + (bs r).size := by rw [bs_size]; simp [ByteArray.size]; omega
      have HR := Lib.hid (HD.out.1 hj0)
      go_wp2
      go_ret
      refine ⟨?_, hb⟩
      unfold markV
      rw [← HR.out, show bs (109 :: r) = bs [109] ++ bs r by rw [bs_append]; rfl]
      rfl

def MarkPostS (ls : List ByteArray) (v : Value) (m B g : Nat) (w : World) (e : Ending) (w' : World) : Prop :=
  ∃ ls' : List ByteArray, ls'.length = ls.length ∧ e = .returned (.int .i64 (m + ls.length)) ∧ OwnS w' B v ls' ∧ MarkedS ls' m ls.length ∧ w.grownBy w' (some g)

theorem growS_refl (w : World) (g : Option Nat) : w.grownBy w g := ⟨rfl, rfl, rfl, Nat.le_refl _, fun _ _ _ => rfl⟩

theorem growS_trans {w w1 w2 : World} {g : Option Nat} (h : w.grownBy w1 g) (k : w1.grownBy w2 g) : w.grownBy w2 g :=
  ⟨k.os.trans h.os, k.tape.trans h.tape, k.output.trans h.output, Nat.le_trans h.size k.size, fun b hb hne => (k.block b (Nat.lt_of_lt_of_le hb h.size) hne).trans (h.block b hb hne)⟩

theorem growS_below {w w1 : World} {g : Option Nat} (h : Below w.heap.size w w1) : w.grownBy w1 g := ⟨h.os, h.tape, h.output, h.size, fun b hb _ => h.block b hb⟩

theorem markMK (m k : Nat) (w : World) (h1 : 0 < m) (h2 : m + k ≤ 9223372036854775807) :
    Calls Tryd.prog 23 #[.int .i64 ((m : Int) + (k : Int))] w fun e w' => e = .returned (.string (markV (m + k))) ∧ Below w.heap.size w w' := by
  rw [show ((m : Int) + (k : Int)) = ((m + k : Nat) : Int) by omega]
  exact markText_any (m + k) w (by omega) (by omega)

set_option maxHeartbeats 1000000 in
theorem markStringS_any (g cap n B m : Nat) (ls : List ByteArray) (w : World) (hO : OwnS w B (.slice (some ⟨g, 0, none⟩) n cap) ls) (hl : n ≤ 1000000000) (h1 : 0 < m) (h2 : m ≤ 1000000000) :
    Calls Tryd.prog 10 #[.slice (some ⟨g, 0, none⟩) n cap, .int .i64 m] w (MarkPostS ls (.slice (some ⟨g, 0, none⟩) n cap) m B g w) := by
  have HN := Lib.hid hO.reads.1
  have HO := Lib.hid hO; clear hO
  go_enter Tryd.func10, Tryd.ntmps10
  go_wp2_with fail
  go_loopw [1, 5] (fun q i wr => ∃ (k : Nat) (ls' : List ByteArray), k ≤ n ∧ i = .int .i64 k ∧ q = .int .i64 (m + k) ∧ RowKit.Hid (ls'.length = n) ∧ RowKit.Hid (MarkedS ls' m k) ∧ RowKit.Hid (OwnS wr B (.slice (some ⟨g, 0, none⟩) n cap) ls') ∧ RowKit.Hid (w.grownBy wr (some g))) (fun _ i _ => n - (intOf i).toNat)
  case atStart => exact ⟨0, ls, Nat.zero_le _, rfl, by simp, HN.out.symm, fun j hj => by omega, HO.out, growS_refl _ _⟩
  case round =>
    obtain ⟨k, ls', hk, rfl, rfl, HL, HM, HR, HG⟩ := hrel
    by_cases hlt : k < n
    · have hl1 : k < ls'.length := by have := HL.out; omega
      go_wp2_with fail
      rw [show ((m : Int) + (k : Int)) = ((m + k : Nat) : Int) by omega]
      go_at_call 23; refine (markText_any (m + k) _ (by omega) (by omega)).mono ?_; rintro e w1 ⟨rfl, hb⟩
      have HR1 := Lib.hid (HR.out.kept hb)
      have HG1 := Lib.hid (growS_trans HG.out (growS_below hb))
      have hRo : w1.ownsRow B 9 1 (.slice (some ⟨g, 0, none⟩) n cap) n (strV ls') := by
        have := HR1.out; unfold OwnS at this; rw [HL.out] at this; exact this
      have c0 := (hRo.cellAt k (by omega)).trans (strV_get (List.getElem?_eq_getElem hl1))
      have z0 := hRo.frozenAt k
      clear hRo hb
      go_wp2_with fail
      go_roundw
      case rel =>
        obtain ⟨r1, r2⟩ := HR1.out.store HL.out.symm (k := k) (markV (m + k))
        exact ⟨k + 1, _, by omega, by go_num, by first | rfl | (congr 1; omega) | simp, by rw [List.length_set]; exact HL.out, markedS_step HM.out hl1, r1, growS_trans HG1.out r2⟩
      case measure => simp [intOf]; omega
    · have hk' : k = n := by omega
      subst hk'
      go_wp2_with fail
      go_ret
      have e := HN.out
      refine ⟨ls', HL.out.trans e, ?_, HR.out, ?_, HG.out⟩
      · show Ending.returned (.int .i64 (m + (k : Int))) = _
        rw [e]
      · rw [← e]; exact HM.out

set_option maxHeartbeats 1000000 in
theorem heldStringS_any (A : Option Addr) (n c m : Nat) (ls : List ByteArray) (w : World) (hn : n = ls.length) (hA : SsAt w w.heap.size A ls) (hm : MarkedS ls m n) (hl : n ≤ 1000000000) (h1 : 0 < m) (h2 : m ≤ 1000000000) :
    Calls Tryd.prog 11 #[.slice A n c, .int .i64 m] w fun e w' => e = .returned (.int .i64 (m + n)) ∧ Below w.heap.size w w' := by
  have HA := Lib.hid hA; clear hA
  have HM := Lib.hid hm; clear hm
  have HN := Lib.hid hn; clear hn
  go_enter Tryd.func11, Tryd.ntmps11
  go_wp2_with fail
  go_loopw [1, 5] (fun q i wr => ∃ k : Nat, k ≤ n ∧ i = .int .i64 k ∧ q = .int .i64 (m + k) ∧ Below w.heap.size w wr) (fun _ i _ => n - (intOf i).toNat)
  case atStart => exact ⟨0, Nat.zero_le _, rfl, by simp, Below.refl _ _⟩
  case round =>
    obtain ⟨k, hk, rfl, rfl, hb⟩ := hrel
    have hsz := hb.size
    by_cases hlt : k < n
    · have hl1 : k < ls.length := by have := HN.out; omega
      obtain ⟨b, off, rfl, hlb, c0⟩ := (HA.out.below hb).at_ hl1
      have hx : ls[k] = markV (m + k) := by
        have := HM.out k hlt
        rw [List.getElem?_eq_getElem hl1] at this
        injection this
      rw [hx] at c0
      clear hx
      have hlb' : b < wr.heap.size := by omega
      go_wp2_with fail
      refine wp_region_qb (by kernel_rfl) (by kernel_rfl) (fun W_q hW_q => ?_)
      have kq0 : ∀ d_ os_, (Sort.grow (redrawn W_q d_) os_).cell? ⟨b, (off+k), none⟩ = some (.string (markV (m + k))) := fun d_ os_ => cell_regrown (by rw [hW_q.out]; first | assumption | (go_keep; done) | (go_simp; done) | (simp; done)) d_ os_
      repeat (go_big_quiet_step (first | (go_at_call 23; with_reducible exact Calls.regrown_of (markMK m k _ (by omega) (by omega)))))
      refine wpQuiet_nil ?_
      intro _ hw_q
      obtain ⟨⟨dq_, osq_⟩, hw_q⟩ := hw_q
      subst hw_q
      have hb1 := below_regrown W_q dq_ osq_
      clear kq0
      generalize Sort.grow (redrawn W_q dq_) osq_ = w1 at *
      have hW_q := hW_q.out
      subst hW_q
      have cc_w10 := cell_keep (p := ⟨b, (off+k), none⟩) (v := .string (markV (m + k))) hb1 (by first | assumption | (go_keep; done) | (go_simp; done) | (simp; done)) (by first | omega | (simp <;> omega))
      have hS1_w1 : Below w.heap.size w w1 := S_below hb1 (by repeat (first | exact Below.refl _ _ | assumption | refine below_drewN ?_ _ | refine Below.drew ?_ | refine Below.alloc ?_ (by first | omega | (simp <;> omega)) _ | refine Below.setCell ?_ (by first | omega | (simp <;> omega)) _)) (by first | omega | (simp <;> omega))
      have hz1_w1 : w.heap.size ≤ w1.heap.size := S_size hb1 (by first | omega | (simp <;> omega))
      have hqb_w10 : b < w1.heap.size := S_lt hb1 (by first | omega | (simp <;> omega))
      clear hb1
      go_wp2_with fail
      go_roundw
      case rel => exact ⟨k + 1, by omega, by go_num, by first | rfl | (congr 1; omega) | simp, (by repeat (first | exact Below.refl _ _ | assumption | refine below_drewN ?_ _ | refine Below.drew ?_ | refine Below.alloc ?_ (by first | omega | (simp <;> omega)) _ | refine Below.setCell ?_ (by first | omega | (simp <;> omega)) _))⟩
      case measure => simp [intOf]; omega
    · have hk' : k = n := by omega
      subst hk'
      go_wp2_with fail
      go_ret
      exact ⟨rfl, hb⟩

end Go.Proofs.YtkcalnahiabejaaDoor
