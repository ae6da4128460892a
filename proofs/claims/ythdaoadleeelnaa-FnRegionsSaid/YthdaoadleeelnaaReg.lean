/- Regions: the helpers of the laws that size them, copy them and compare them. Regions copied and compared. SameRegion, of the program and of the reference. -/
import Derived.Test.YthdaoadleeelnaaHs
import Derived.Test.YthdaoadleeelnaaNew
import Derived.Test.YthdaoadleeelnaaFrm
namespace Go.Proofs.Ythdaoadleeelnaa
open Go.ChangeShapes Go.WideShapes Go.ChangeAt Go.RowKit
attribute [local go_sem ↓] Go.wp_at_zero Go.wp_at_succ
set_option linter.unusedVariables false

/-- What is left of a size. -/
def leftV (q : Int) (n : Nat) : Int := if q < n then -1 else q - n

set_option maxHeartbeats 400000 in
set_option maxRecDepth 100000 in
theorem szHalfS_any (A : Option Addr) (n c : Nat) (q : Int) (w : World) (h1 : 0 ≤ q) (h2 : q ≤ 1048576) (hn : n ≤ 9223372036854775807) :
    Calls Try.prog 28 #[.slice A n c, .int .i64 q] w fun e w' => e = .returned (.int .i64 (leftV q n)) ∧ w = w' := by
  by_cases h : q < n
  · have HV := Lib.hid (show leftV q n = -1 by unfold leftV; exact if_pos h)
    go_enter Try.func28, Try.ntmps28
    go_wp2
    go_ret
    exact ⟨ret_int HV.out.symm, rfl⟩
  · have HV := Lib.hid (show leftV q n = q - n by unfold leftV; exact if_neg h)
    go_enter Try.func28, Try.ntmps28
    go_wp2
    go_ret
    exact ⟨ret_int HV.out.symm, rfl⟩

set_option maxHeartbeats 400000 in
set_option maxRecDepth 100000 in
theorem szRegion_any (A : Option Addr) (n c : Nat) (q : Int) (w : World) (h1 : 0 ≤ q) (h2 : q ≤ 1048576) (hn : n ≤ 9223372036854775807) :
    Calls Try.prog 17 #[.agg #[.slice A n c], .int .i64 q] w fun e w' => e = .returned (.int .i64 (leftV q n)) ∧ Below w.heap.size w w' := by
  by_cases h : q < n
  · have HV := Lib.hid (show leftV q n = -1 by unfold leftV; exact if_pos h)
    go_enter Try.func17, Try.ntmps17
    go_wp2_with fail
    go_at_call 28; refine (szHalfS_any _ _ _ _ _ h1 h2 hn).mono ?_; rintro e w' ⟨he, rfl⟩
    rw [HV.out] at he; subst he
    go_wp2_with fail
    go_ret
    exact ⟨ret_int HV.out.symm, (by repeat (first | exact Below.refl _ _ | assumption | refine below_drewN ?_ _ | refine Below.drew ?_ | refine Below.alloc ?_ (by first | omega | (simp <;> omega)) _ | refine Below.setCell ?_ (by first | omega | (simp <;> omega)) _))⟩
  · have HV := Lib.hid (show leftV q n = q - n by unfold leftV; exact if_neg h)
    go_enter Try.func17, Try.ntmps17
    go_wp2_with fail
    go_at_call 28; refine (szHalfS_any _ _ _ _ _ h1 h2 hn).mono ?_; rintro e w' ⟨he, rfl⟩
    rw [HV.out] at he; subst he
    go_wp2_with fail
    go_ret
    exact ⟨ret_int HV.out.symm, (by repeat (first | exact Below.refl _ _ | assumption | refine below_drewN ?_ _ | refine Below.drew ?_ | refine Below.alloc ?_ (by first | omega | (simp <;> omega)) _ | refine Below.setCell ?_ (by first | omega | (simp <;> omega)) _))⟩

set_option maxHeartbeats 400000 in
set_option maxRecDepth 100000 in
theorem toHalf_any (a b c : Int) (w : World) :
    Calls Try.prog 50 #[.agg #[.int .i64 a, .int .i64 b, .int .i64 c]] w fun e w' => e = .returned (.agg #[.int .i64 a, .int .i64 b, .int .i64 c]) ∧ Below w.heap.size w w' := by
  go_enter Try.func50, Try.ntmps50
  go_wp2
  exact bodyPost_ret (v := .agg #[.int .i64 a, .int .i64 b, .int .i64 c]) (by simp [results, Try.results50, go_sem]) rfl ⟨rfl, (by repeat (first | exact Below.refl _ _ | assumption | refine below_drewN ?_ _ | refine Below.drew ?_ | refine Below.alloc ?_ (by first | omega | (simp <;> omega)) _ | refine Below.setCell ?_ (by first | omega | (simp <;> omega)) _))⟩

set_option maxHeartbeats 400000 in
set_option maxRecDepth 100000 in
theorem iIsVoid_any (A : Option Addr) (n c : Nat) (w : World) (hn : n ≤ 9223372036854775807) :
    Calls Try.prog 20 #[.agg #[.slice A n c]] w fun e w' => e = .returned (.bool (decide (n = 0))) ∧ Below w.heap.size w w' := by
  go_enter Try.func20, Try.ntmps20
  go_wp2
  go_ret
  exact ⟨ret_bool (by rw [Bool.eq_iff_iff]; simp), (by repeat (first | exact Below.refl _ _ | assumption | refine below_drewN ?_ _ | refine Below.drew ?_ | refine Below.alloc ?_ (by first | omega | (simp <;> omega)) _ | refine Below.setCell ?_ (by first | omega | (simp <;> omega)) _))⟩
set_option maxHeartbeats 400000 in
set_option maxRecDepth 100000 in
theorem sIsVoid_any (A : Option Addr) (n c : Nat) (w : World) (hn : n ≤ 9223372036854775807) :
    Calls Try.prog 18 #[.agg #[.slice A n c]] w fun e w' => e = .returned (.bool (decide (n = 0))) ∧ Below w.heap.size w w' := by
  go_enter Try.func18, Try.ntmps18
  go_wp2
  go_ret
  exact ⟨ret_bool (by rw [Bool.eq_iff_iff]; simp), (by repeat (first | exact Below.refl _ _ | assumption | refine below_drewN ?_ _ | refine Below.drew ?_ | refine Below.alloc ?_ (by first | omega | (simp <;> omega)) _ | refine Below.setCell ?_ (by first | omega | (simp <;> omega)) _))⟩

theorem infoH : (Try.prog.info? 57).map (fun i => (i.zero, i.size, i.bytes)) = some (some (.agg #[.int .i64 0, .int .i64 0, .int .i64 0]), 3, 24) := by kernel_rfl

theorem flat_zeros (n : Nat) : flatH (List.replicate n (0, 0, 0)) = List.replicate (n * 3) (.int .i64 0) := by
  induction n with
  | zero => rfl
  | succ n ih => rw [List.replicate_succ, flatH_cons, ih, show (n + 1) * 3 = n * 3 + 1 + 1 + 1 by omega]; rfl

theorem zeros_flat (n : Nat) : (madeCells #[Value.int .i64 0, Value.int .i64 0, Value.int .i64 0] (n * 3)).toList = flatH (List.replicate n (0, 0, 0)) := by
  rw [flat_zeros, List.eq_replicate_iff]
  refine ⟨by simp [size_madeCells], fun v hv => ?_⟩
  unfold madeCells at hv
  simp only [Array.toList_map, List.mem_map] at hv
  obtain ⟨i, _, rfl⟩ := hv
  show (#[Value.int .i64 0, .int .i64 0, .int .i64 0] : Array Value)[i % 3]! = _
  have h3 : i % 3 < 3 := Nat.mod_lt _ (by omega)
  rcases (show i % 3 = 0 ∨ i % 3 = 1 ∨ i % 3 = 2 by omega) with e | e | e <;> rw [e] <;> rfl

theorem flatH_ext {l m : List Hp} (h : l.length = m.length) (he : flatH l = flatH m) : l = m := by
  apply List.ext_getElem?
  intro k
  by_cases hk : k < l.length
  · obtain ⟨a1, a2, a3⟩ := flatH_get l k l[k] (List.getElem?_eq_getElem hk)
    obtain ⟨b1, b2, b3⟩ := flatH_get m k m[k] (List.getElem?_eq_getElem (by omega))
    rw [he] at a1 a2 a3
    rw [List.getElem?_eq_getElem hk, List.getElem?_eq_getElem (by omega)]
    rw [a1] at b1; rw [a2] at b2; rw [a3] at b3
    simp only [Option.some.injEq, Value.int.injEq, true_and] at b1 b2 b3
    exact congrArg some (Prod.ext b1 (Prod.ext b2 b3))
  · rw [List.getElem?_eq_none (by omega), List.getElem?_eq_none (by omega)]

theorem take_set_step {hs hs' : List Hp} {k : Nat} (hl : hs'.length = hs.length) (h : hs'.take k = hs.take k) (hk : k < hs.length) : (hs'.set k hs[k]).take (k + 1) = hs.take (k + 1) := by
  rw [List.take_succ_eq_append_getElem (by simpa [hl] using hk), List.take_succ_eq_append_getElem hk]
  rw [List.take_set_of_le (by omega), h]
  simp

set_option maxHeartbeats 1000000 in
set_option maxRecDepth 100000 in
theorem toHalfS_any (A : Option Addr) (n c : Nat) (hs : List Hp) (w : World) (hn : n = hs.length) (hA : HsAt w w.heap.size A hs) (hl : n ≤ 1048576) :
    Calls Try.prog 30 #[.slice A n c] w (MadeH hs w) := by
  obtain ⟨i0, hi0, hz0, hz1, hz2⟩ := info_parts infoH
  have HA := Lib.hid hA; clear hA
  have HN := Lib.hid hn; clear hn
  have hb2' : i0.bytes * n ≤ 281474976710656 := by rw [hz2]; omega
  have hb3' : n ≤ maxLen := by unfold maxLen; omega
  go_enter Try.func30, Try.ntmps30
  go_wp2_with (at_make; refine wpList_make_full _ rfl (.tmp 6) (.tmp 6) 22 rfl w.heap.size 57 i0 (.agg #[.int .i64 0, .int .i64 0, .int .i64 0]) 3 Try.underlying22 hi0 hz0 hz1 .i64 .i64 (n : Int) (n : Int) n rfl rfl rfl rfl hb2' hb3' (Nat.le_refl _) ?_)
  intro w1 hown hgrow
  rw [zeros_flat] at hown
  have HO : RowKit.Hid (OwnH w1 w.heap.size (.slice (some ⟨w.heap.size, 0, none⟩) n n) (List.replicate n (0, 0, 0))) := by unfold RowKit.Hid OwnH; rw [List.length_replicate]; exact hown
  have HB : RowKit.Hid (Below w.heap.size w w1) := Lib.hid ((Below.refl _ _).grown hgrow (Nat.le_refl _) (by intro k e; cases e))
  clear hown hgrow
  go_wp2_with fail
  go_loopw [4] (fun i wr => ∃ (k : Nat) (hs' : List Hp), k ≤ n ∧ i = .int .i64 k ∧ RowKit.Hid (hs'.length = hs.length) ∧ RowKit.Hid (hs'.take k = hs.take k) ∧ RowKit.Hid (OwnH wr w.heap.size (.slice (some ⟨w.heap.size, 0, none⟩) n n) hs') ∧ Below w.heap.size w wr) (fun i _ => n - (intOf i).toNat)
  case atStart => exact ⟨0, List.replicate n (0, 0, 0), Nat.zero_le _, rfl, (List.length_replicate ..).trans HN.out, rfl, HO.out, HB.out⟩
  case round =>
    obtain ⟨k, hs', hk, rfl, HL, HT, HR, hb⟩ := hrel
    by_cases hlt : k < n
    · have hl1 : k < hs.length := by have := HN.out; omega
      have hl2 : k < hs'.length := by have := HL.out; omega
      obtain ⟨b, off, rfl, hlb, c0, c1, c2⟩ := (HA.out.below hb).at_ hl1
      go_wp2_with fail
      go_at_call 50; refine (toHalf_any _ _ _ _).mono ?_; rintro e w2 ⟨rfl, hb2⟩
      have HR2 := Lib.hid (HR.out.kept hb2)
      have hb3 : Below w.heap.size w w2 := hb.trans (hb2.mono hb.size)
      have e1 := HN.out
      have e2 := HL.out
      have hRo : w2.ownsRow w.heap.size 57 3 (.slice (some ⟨w.heap.size, 0, none⟩) n n) n (flatH hs') := by
        have := HR2.out; unfold OwnH at this; rw [e2, ← e1] at this; exact this
      obtain ⟨f1, f2, f3⟩ := flatH_get hs' k hs'[k] (List.getElem?_eq_getElem hl2)
      have d0 := (hRo.cellAt (k * 3) (by omega)).trans f1
      have d1 := (hRo.cellAt (k * 3 + 1) (by omega)).trans f2
      have d2 := (hRo.cellAt (k * 3 + 2) (by omega)).trans f3
      have z0 := hRo.frozenAt (k * 3)
      have z1 := hRo.frozenAt (k * 3 + 1)
      have z2 := hRo.frozenAt (k * 3 + 2)
      clear f1 f2 f3 hRo e1 e2 hb2
      go_wp2_with fail
      go_roundw
      case rel =>
        obtain ⟨r1, r2⟩ := HR2.out.store3 (HN.out.trans HL.out.symm) hl2 hs[k].1 hs[k].2.1 hs[k].2.2
        exact ⟨k + 1, hs'.set k hs[k], by omega, by go_num, (List.length_set ..).trans HL.out, take_set_step HL.out HT.out hl1, r1, hb3.grown r2 hb3.size (by intro q e; injection e with e; omega)⟩
      case measure => simp [intOf]; omega
    · have hk' : k = n := by omega
      subst hk'
      go_wp2_with fail
      go_ret
      have e1 := HN.out
      have e2 : hs' = hs := by
        have := HT.out
        rwa [List.take_of_length_le (by have := HL.out; omega), List.take_of_length_le (by omega)] at this
      subst e2
      refine ⟨w.heap.size, k, ?_, ?_, Nat.le_refl _, hb⟩
      · show Ending.returned (.slice (some ⟨w.heap.size, 0, none⟩) k k) = _
        rw [← e1]
      · have := HR.out
        rwa [← e1]

/-- A region that the call itself made. -/
def MadeR (hs : List Hp) (w : World) (e : Ending) (w' : World) : Prop := ∃ g c, e = .returned (.agg #[.slice (some ⟨g, 0, none⟩) hs.length c]) ∧ OwnH w' w.heap.size (.slice (some ⟨g, 0, none⟩) hs.length c) hs ∧ w.heap.size ≤ g ∧ Below w.heap.size w w'

theorem OwnH.less {w : World} {B B' : Nat} {v : Value} {hs : List Hp} (h : OwnH w B v hs) (hB : B' ≤ B) : OwnH w B' v hs := by
  refine ⟨h.1, ?_⟩
  rcases h.2 with h | ⟨g, cap, cur, e, hb, rest⟩
  · exact .inl h
  · exact .inr ⟨g, cap, cur, e, by omega, rest⟩

theorem OwnH.set_far {w : World} {B g n c : Nat} {hs : List Hp} (h : OwnH w B (.slice (some ⟨g, 0, none⟩) n c) hs) {p : Addr} (hp : p.block ≠ g) (u : Value) : OwnH (w.setCell p u) B (.slice (some ⟨g, 0, none⟩) n c) hs := by
  refine World.ownsRow.kept h (row := some p.block) ⟨rfl, rfl, rfl, by simp, fun k _ hk => Below.heap_setCell w p u k (fun e => hk (by rw [e]))⟩ (.inr ?_)
  simp [Value.ownBlock]; exact fun e => hp e.symm

theorem set_far_0 {w : World} {b : Nat} {p : Addr} {x : Value} (h : w.cell? ⟨b, 0, none⟩ = some x) (hne : p.block ≠ b) (u v : Value) : ((w.setCell p u).setCell ⟨b, 0, none⟩ v).cell? ⟨b, 0, none⟩ = some v := by
  refine World.cell?_setCell_same (u := x) _ _ _ ?_
  rw [World.cell?_setCell_other _ _ _ _ (by intro e; apply hne; rw [e])]; exact h

set_option maxHeartbeats 1000000 in
set_option maxRecDepth 100000 in
theorem toRegion_any (A : Option Addr) (n c : Nat) (hs : List Hp) (w : World) (hn : n = hs.length) (hA : HsAt w w.heap.size A hs) (hl : n ≤ 1048576) :
    Calls Try.prog 19 #[.agg #[.slice A n c]] w (MadeR hs w) := by
  have HA := Lib.hid hA; clear hA
  have HN := Lib.hid hn; clear hn
  go_enter Try.func19, Try.ntmps19
  go_wp2_with fail
  go_at_call 30; refine (toHalfS_any _ _ _ hs _ HN.out (HA.out.step ((((Below.refl _ _).alloc (Nat.le_refl _) _).alloc (by simp) _).alloc (by simp; omega) _)) hl).mono ?_; rintro e w1 ⟨g, c1, rfl, hO, hg, hb⟩
  have cc0 := cell_keep (p := ⟨w.heap.size + 1, 0, none⟩) (v := .slice none 0 0) hb (by first | (go_simp; done) | (simp; done)) (by simp)
  have cc1 := cell_keep (p := ⟨w.heap.size + 1 + 1, 0, none⟩) (v := .slice none 0 0) hb (by first | (go_simp; done) | (simp; done)) (by simp)
  have cf0 := frozen_keep (p := ⟨w.heap.size + 1, 0, none⟩) hb (by first | (go_simp; done) | (simp; done)) (by simp)
  have cf1 := frozen_keep (p := ⟨w.heap.size + 1 + 1, 0, none⟩) hb (by first | (go_simp; done) | (simp; done)) (by simp)
  have hS : Below w.heap.size w w1 := S_below hb (by repeat (first | exact Below.refl _ _ | assumption | refine below_drewN ?_ _ | refine Below.drew ?_ | refine Below.alloc ?_ (by first | omega | (simp <;> omega)) _ | refine Below.setCell ?_ (by first | omega | (simp <;> omega)) _)) (by simp; omega)
  have hz : w.heap.size + 1 + 1 + 1 ≤ w1.heap.size := by have := hb.size; simpa using this
  have hg' : w.heap.size + 1 + 1 + 1 ≤ g := by simpa using hg
  have HO := Lib.hid (hO.less (B' := w.heap.size) (by simp; omega))
  clear hO hb hg
  go_wp2_with fail
  refine bodyPost_ret (v := .agg #[.slice (some ⟨g, 0, none⟩) hs.length c1]) (by simp [results, Try.results19, go_sem, set_far_0 (p := ⟨w.heap.size + 1 + 1, 0, none⟩) cc0 (by simp)]) rfl ⟨g, c1, rfl, ?_, by omega, (by repeat (first | exact Below.refl _ _ | assumption | refine below_drewN ?_ _ | refine Below.drew ?_ | refine Below.alloc ?_ (by first | omega | (simp <;> omega)) _ | refine Below.setCell ?_ (by first | omega | (simp <;> omega)) _))⟩
  exact (HO.out.set_far (by simp; omega) _).set_far (by simp; omega) _

set_option maxHeartbeats 400000 in
set_option maxRecDepth 100000 in
theorem eqRegion_any (A A' : Option Addr) (n n' c c' : Nat) (hs hs' : List Hp) (w : World) (hn : n = hs.length) (hn' : n' = hs'.length) (hA : HsAt w w.heap.size A hs) (hA' : HsAt w w.heap.size A' hs') (hm : n ≤ 4611686018427387904) (hm' : n' ≤ 4611686018427387904) {v : Bool} (hv : decide (hs = hs') = v) :
    Calls Try.prog 21 #[.agg #[.slice A n c], .agg #[.slice A' n' c']] w fun e w' => e = .returned (.bool v) ∧ Below w.heap.size w w' := by
  have HA := Lib.hid hA; clear hA
  have HA' := Lib.hid hA'; clear hA'
  have HN := Lib.hid (And.intro hn hn'); clear hn hn'
  have HV := Lib.hid hv; clear hv
  cases v
  all_goals
    go_enter Try.func21, Try.ntmps21
    go_wp2_with fail
    go_at_call 14; refine (eqHalfS_any _ _ _ _ _ _ hs hs' _ HN.out.1 HN.out.2 (HA.out.step (((Below.refl _ _).alloc (Nat.le_refl _) _).alloc (Nat.le_of_lt (new_lt _ _)) _)) (HA'.out.step (((Below.refl _ _).alloc (Nat.le_refl _) _).alloc (Nat.le_of_lt (new_lt _ _)) _)) hm hm').mono ?_; rintro e w1 ⟨he, hb⟩
    rw [HV.out] at he
    subst he
    have hS : Below w.heap.size w w1 := S_below hb (by repeat (first | exact Below.refl _ _ | assumption | refine below_drewN ?_ _ | refine Below.drew ?_ | refine Below.alloc ?_ (by first | omega | (simp <;> omega)) _ | refine Below.setCell ?_ (by first | omega | (simp <;> omega)) _)) (by simp; omega)
    clear hb
    go_wp2_with fail
    go_ret
    exact ⟨rfl, hS⟩

set_option maxHeartbeats 1000000 in
set_option maxRecDepth 100000 in
theorem slicesEqual_any (A A' : Option Addr) (n n' c c' : Nat) (hs hs' : List Hp) (w : World) (hn : n = hs.length) (hn' : n' = hs'.length) (hA : HsAt w w.heap.size A hs) (hA' : HsAt w w.heap.size A' hs') (hm : n ≤ 4611686018427387904) (hm' : n' ≤ 4611686018427387904) :
    Calls Try.prog 44 #[.slice A n c, .slice A' n' c'] w fun e w' => e = .returned (.bool (decide (hs = hs'))) ∧ Below w.heap.size w w' := by
  have HA := Lib.hid hA; clear hA
  have HA' := Lib.hid hA'; clear hA'
  by_cases he : n = n'
  · subst he
    have HN := Lib.hid hn; clear hn
    have HN' := Lib.hid hn'; clear hn'
    go_enter Try.func44, Try.ntmps44
    go_wp2
    go_loopw [13] (fun i wr => ∃ k : Nat, k ≤ n ∧ i = .int .i64 k ∧ RowKit.Hid (hs.take k = hs'.take k) ∧ Below w.heap.size w wr) (fun i _ => n - (intOf i).toNat)
    case atStart => exact ⟨0, Nat.zero_le _, rfl, rfl, Below.refl _ _⟩
    case round =>
      obtain ⟨k, hk, rfl, HE, hb⟩ := hrel
      by_cases hlt : k < n
      · have hl1 : k < hs.length := by have := HN.out; omega
        have hl2 : k < hs'.length := by have := HN'.out; omega
        obtain ⟨b, off, rfl, hlb, c0, c1, c2⟩ := (HA.out.below hb).at_ hl1
        obtain ⟨b', off', rfl, hlb', d0, d1, d2⟩ := (HA'.out.below hb).at_ hl2
        have hz := hb.size
        have hx : hs[k] = hs'[k] → RowKit.Hid (hs.take (k + 1) = hs'.take (k + 1)) := fun e => take_step HE.out hl1 hl2 e
        have hy : ¬ hs[k] = hs'[k] → RowKit.Hid (decide (hs = hs') = false) := fun e => by
          refine decide_eq_false (fun h => e ?_); subst h; rfl
        generalize hs[k] = x at *
        generalize hs'[k] = y at *
        obtain ⟨x0, x1, x2⟩ := x
        obtain ⟨y0, y1, y2⟩ := y
        simp only at c0 c1 c2 d0 d1 d2
        by_cases e0 : x0 = y0
        · by_cases e1 : x1 = y1
          · by_cases e2 : x2 = y2
            · subst e0 e1 e2
              have HF := hx rfl
              clear hx hy
              go_wp2_with fail
              go_quiet (fail)
              go_wp2_with fail
              go_roundw
              case rel => exact ⟨k + 1, by omega, by go_num, HF, (by repeat (first | exact Below.refl _ _ | assumption | refine below_drewN ?_ _ | refine Below.drew ?_ | refine Below.alloc ?_ (by first | omega | (simp <;> omega)) _ | refine Below.setCell ?_ (by first | omega | (simp <;> omega)) _))⟩
              case measure => simp [intOf]; omega
            · subst e0 e1
              have HF := hy (fun e => e2 (by injection e with _ e; injection e))
              clear hx hy
              go_wp2_with fail
              go_quiet (fail)
              go_wp2_with fail
              go_ret
              exact ⟨ret_bool HF.out.symm, (by repeat (first | exact Below.refl _ _ | assumption | refine below_drewN ?_ _ | refine Below.drew ?_ | refine Below.alloc ?_ (by first | omega | (simp <;> omega)) _ | refine Below.setCell ?_ (by first | omega | (simp <;> omega)) _))⟩
          · subst e0
            have HF := hy (fun e => e1 (by injection e with _ e; injection e))
            clear hx hy
            go_wp2_with fail
            go_quiet (fail)
            go_wp2_with fail
            go_ret
            exact ⟨ret_bool HF.out.symm, (by repeat (first | exact Below.refl _ _ | assumption | refine below_drewN ?_ _ | refine Below.drew ?_ | refine Below.alloc ?_ (by first | omega | (simp <;> omega)) _ | refine Below.setCell ?_ (by first | omega | (simp <;> omega)) _))⟩
        · have HF := hy (fun e => e0 (by injection e))
          clear hx hy
          go_wp2_with fail
          go_quiet (fail)
          go_wp2_with fail
          go_ret
          exact ⟨ret_bool HF.out.symm, (by repeat (first | exact Below.refl _ _ | assumption | refine below_drewN ?_ _ | refine Below.drew ?_ | refine Below.alloc ?_ (by first | omega | (simp <;> omega)) _ | refine Below.setCell ?_ (by first | omega | (simp <;> omega)) _))⟩
      · have HF := Lib.hid (show decide (hs = hs') = true by
          refine decide_eq_true ?_
          have e := HE.out
          rwa [List.take_of_length_le (by have := HN.out; omega), List.take_of_length_le (by have := HN'.out; omega)] at e)
        go_wp2_with fail
        go_ret
        exact ⟨ret_bool HF.out.symm, hb⟩
  · have HF := Lib.hid (show decide (hs = hs') = false by
      refine decide_eq_false (fun h => he ?_); subst h; omega)
    clear hn hn'
    go_enter Try.func44, Try.ntmps44
    go_wp2
    go_ret
    exact ⟨ret_bool HF.out.symm, (by repeat (first | exact Below.refl _ _ | assumption | refine below_drewN ?_ _ | refine Below.drew ?_ | refine Below.alloc ?_ (by first | omega | (simp <;> omega)) _ | refine Below.setCell ?_ (by first | omega | (simp <;> omega)) _))⟩

set_option maxHeartbeats 400000 in
set_option maxRecDepth 100000 in
theorem iSameRegion_any (A A' : Option Addr) (n n' c c' : Nat) (hs hs' : List Hp) (w : World) (hn : n = hs.length) (hn' : n' = hs'.length) (hA : HsAt w w.heap.size A hs) (hA' : HsAt w w.heap.size A' hs') (hm : n ≤ 4611686018427387904) (hm' : n' ≤ 4611686018427387904) :
    Calls Try.prog 23 #[.agg #[.slice A n c], .agg #[.slice A' n' c']] w fun e w' => e = .returned (.bool (decide (hs = hs'))) ∧ Below w.heap.size w w' := by
  have HA := Lib.hid hA; clear hA
  have HA' := Lib.hid hA'; clear hA'
  have HN := Lib.hid (And.intro hn hn'); clear hn hn'
  go_enter Try.func23, Try.ntmps23
  go_wp2_with fail
  go_at_call 44; refine (slicesEqual_any _ _ _ _ _ _ hs hs' _ HN.out.1 HN.out.2 (HA.out.step (((Below.refl _ _).alloc (Nat.le_refl _) _).alloc (Nat.le_of_lt (new_lt _ _)) _)) (HA'.out.step (((Below.refl _ _).alloc (Nat.le_refl _) _).alloc (Nat.le_of_lt (new_lt _ _)) _)) hm hm').mono ?_; rintro e w1 ⟨rfl, hb⟩
  have hS : Below w.heap.size w w1 := S_below hb (by repeat (first | exact Below.refl _ _ | assumption | refine below_drewN ?_ _ | refine Below.drew ?_ | refine Below.alloc ?_ (by first | omega | (simp <;> omega)) _ | refine Below.setCell ?_ (by first | omega | (simp <;> omega)) _)) (by simp; omega)
  clear hb
  go_wp2_with fail
  go_ret
  exact ⟨rfl, hS⟩

set_option maxHeartbeats 1000000 in
set_option maxRecDepth 100000 in
theorem sSameRegion_any (A A' : Option Addr) (n n' c c' : Nat) (hs hs' : List Hp) (w : World) (hn : n = hs.length) (hn' : n' = hs'.length) (hA : HsAt w w.heap.size A hs) (hA' : HsAt w w.heap.size A' hs') (hm : n ≤ 4611686018427387904) (hm' : n' ≤ 4611686018427387904) :
    Calls Try.prog 22 #[.agg #[.slice A n c], .agg #[.slice A' n' c']] w fun e w' => e = .returned (.bool (decide (hs = hs'))) ∧ Below w.heap.size w w' := by
  have HA := Lib.hid hA; clear hA
  have HA' := Lib.hid hA'; clear hA'
  by_cases he : n = n'
  · subst he
    have HN := Lib.hid hn; clear hn
    have HN' := Lib.hid hn'; clear hn'
    go_enter Try.func22, Try.ntmps22
    go_wp2_with fail
    go_loopw [17] (fun i wr => ∃ k : Nat, k ≤ n ∧ i = .int .i64 k ∧ RowKit.Hid (hs.take k = hs'.take k) ∧ wr.cell? ⟨w.heap.size + 1, 0, none⟩ = some (.slice A' n c') ∧ w.heap.size + 1 + 1 ≤ wr.heap.size ∧ Below w.heap.size w wr) (fun i _ => n - (intOf i).toNat)
    case atStart => exact ⟨0, Nat.zero_le _, rfl, rfl, by first | (go_simp; done) | (simp; done), by simp, (by repeat (first | exact Below.refl _ _ | assumption | refine below_drewN ?_ _ | refine Below.drew ?_ | refine Below.alloc ?_ (by first | omega | (simp <;> omega)) _ | refine Below.setCell ?_ (by first | omega | (simp <;> omega)) _))⟩
    case round =>
      obtain ⟨k, hk, rfl, HE, hc', hz, hb⟩ := hrel
      by_cases hlt : k < n
      · have hl1 : k < hs.length := by have := HN.out; omega
        have hl2 : k < hs'.length := by have := HN'.out; omega
        obtain ⟨b, off, rfl, hlb, c0, c1, c2⟩ := (HA.out.below hb).at_ hl1
        obtain ⟨b', off', rfl, hlb', d0, d1, d2⟩ := (HA'.out.below hb).at_ hl2
        have n1 : ¬ w.heap.size + 1 = wr.heap.size := by omega
        have n2 : ¬ wr.heap.size = w.heap.size + 1 := by omega
        have n3 : ¬ b' = wr.heap.size := by omega
        have n4 : ¬ wr.heap.size = b' := by omega
        have n5 : ¬ b = wr.heap.size := by omega
        have n6 : ¬ wr.heap.size = b := by omega
        have n7 : ∀ o : Obj, (wr.alloc o).cell? ⟨w.heap.size + 1, 0, none⟩ = some (.slice (some ⟨b', off', none⟩) n c') := fun o => (World.cell?_alloc_lt wr o ⟨w.heap.size + 1, 0, none⟩ (by simp; omega)).trans hc'
        have hx : hs[k] = hs'[k] → RowKit.Hid (hs.take (k + 1) = hs'.take (k + 1)) := fun e => take_step HE.out hl1 hl2 e
        have hy : ¬ hs[k] = hs'[k] → RowKit.Hid (decide (hs = hs') = false) := fun e => by
          refine decide_eq_false (fun h => e ?_); subst h; rfl
        generalize hs[k] = x at *
        generalize hs'[k] = y at *
        obtain ⟨x0, x1, x2⟩ := x
        obtain ⟨y0, y1, y2⟩ := y
        simp only at c0 c1 c2 d0 d1 d2
        have f0 : ∀ o : Obj, (wr.alloc o).cell? ⟨b', off' + k * 3, none⟩ = some (.int .i64 y0) := fun o => (World.cell?_alloc_lt wr o ⟨b', off' + k * 3, none⟩ (by simp; omega)).trans d0
        have f1 : ∀ o : Obj, (wr.alloc o).cell? ⟨b', off' + k * 3 + 1, none⟩ = some (.int .i64 y1) := fun o => (World.cell?_alloc_lt wr o ⟨b', off' + k * 3 + 1, none⟩ (by simp; omega)).trans d1
        have f2 : ∀ o : Obj, (wr.alloc o).cell? ⟨b', off' + k * 3 + 2, none⟩ = some (.int .i64 y2) := fun o => (World.cell?_alloc_lt wr o ⟨b', off' + k * 3 + 2, none⟩ (by simp; omega)).trans d2
        by_cases e0 : x0 = y0
        · by_cases e1 : x1 = y1
          · by_cases e2 : x2 = y2
            · subst e0 e1 e2
              have HF := hx rfl
              clear hx hy
              go_wp2_with fail
              go_quiet (fail)
              go_wp2_with fail
              go_roundw
              case rel => exact ⟨k + 1, by omega, by go_num, HF, by first | (go_simp; done) | (simp; done), by first | omega | (simp; omega), (by repeat (first | exact Below.refl _ _ | assumption | refine below_drewN ?_ _ | refine Below.drew ?_ | refine Below.alloc ?_ (by first | omega | (simp <;> omega)) _ | refine Below.setCell ?_ (by first | omega | (simp <;> omega)) _))⟩
              case measure => simp [intOf]; omega
            · subst e0 e1
              have HF := hy (fun e => e2 (by injection e with _ e; injection e))
              clear hx hy
              go_wp2_with fail
              go_quiet (fail)
              go_wp2_with fail
              go_ret
              exact ⟨ret_bool HF.out.symm, (by repeat (first | exact Below.refl _ _ | assumption | refine below_drewN ?_ _ | refine Below.drew ?_ | refine Below.alloc ?_ (by first | omega | (simp <;> omega)) _ | refine Below.setCell ?_ (by first | omega | (simp <;> omega)) _))⟩
          · subst e0
            have HF := hy (fun e => e1 (by injection e with _ e; injection e))
            clear hx hy
            go_wp2_with fail
            go_quiet (fail)
            go_wp2_with fail
            go_ret
            exact ⟨ret_bool HF.out.symm, (by repeat (first | exact Below.refl _ _ | assumption | refine below_drewN ?_ _ | refine Below.drew ?_ | refine Below.alloc ?_ (by first | omega | (simp <;> omega)) _ | refine Below.setCell ?_ (by first | omega | (simp <;> omega)) _))⟩
        · have HF := hy (fun e => e0 (by injection e))
          clear hx hy
          go_wp2_with fail
          go_quiet (fail)
          go_wp2_with fail
          go_ret
          exact ⟨ret_bool HF.out.symm, (by repeat (first | exact Below.refl _ _ | assumption | refine below_drewN ?_ _ | refine Below.drew ?_ | refine Below.alloc ?_ (by first | omega | (simp <;> omega)) _ | refine Below.setCell ?_ (by first | omega | (simp <;> omega)) _))⟩
      · have HF := Lib.hid (show decide (hs = hs') = true by
          refine decide_eq_true ?_
          have e := HE.out
          rwa [List.take_of_length_le (by have := HN.out; omega), List.take_of_length_le (by have := HN'.out; omega)] at e)
        go_wp2_with fail
        go_ret
        exact ⟨ret_bool HF.out.symm, hb⟩
  · have HF := Lib.hid (show decide (hs = hs') = false by
      refine decide_eq_false (fun h => he ?_); subst h; omega)
    clear hn hn'
    go_enter Try.func22, Try.ntmps22
    go_wp2
    go_ret
    exact ⟨ret_bool HF.out.symm, (by repeat (first | exact Below.refl _ _ | assumption | refine below_drewN ?_ _ | refine Below.drew ?_ | refine Below.alloc ?_ (by first | omega | (simp <;> omega)) _ | refine Below.setCell ?_ (by first | omega | (simp <;> omega)) _))⟩

end Go.Proofs.Ythdaoadleeelnaa
