/- l05Fit and RegionFrom of the reference. RegionFrom of the reference. -/
import Derived.Test.YthdaoadleeelnaaRn11
namespace Go.Proofs.Ythdaoadleeelnaa
open Go.ChangeShapes Go.WideShapes Go.ChangeAt Go.RowKit
attribute [local go_sem ↓] Go.wp_at_zero Go.wp_at_succ
set_option linter.unusedVariables false

def rfG (hs : List Hp) : Bool := decide (hs.length ≤ 40) && hs.all okH

def rfB (hs : List Hp) : Bool := rfG hs && decide ((mkR hs).length ≤ 40)
/-- RegionFrom's region. -/
def rfR (hs : List Hp) : List Hp := if rfB hs then mkR hs else []
/-- A region and a bool handed back. -/
def RPost (R : List Hp) (b : Bool) (w : World) (e : Ending) (w' : World) : Prop := ∃ A c, e = .returned (.tuple #[.agg #[.slice A R.length c], .bool b]) ∧ OwnH w' w.heap.size (.slice A R.length c) R ∧ Below w.heap.size w w'

theorem l05Make_to {A : Option Addr} {n c : Nat} {hs R : List Hp} {w : World} (hR : mkR hs = R) (hn : n = hs.length) (hA : HsAt w w.heap.size A hs) (hm : n ≤ 1000000) (hok : ∀ h ∈ hs, okH h = true) :
    Calls Try.prog 46 #[.slice A n c] w fun e w' => ∃ Av cv, e = .returned (.agg #[.slice Av R.length cv]) ∧ OwnH w' w.heap.size (.slice Av R.length cv) R ∧ Below w.heap.size w w' := by
  subst hR
  refine (l05Make_any A n c hs w hn hA hm hok).mono ?_
  rintro e w' ⟨v, rfl, h1, h2⟩
  obtain ⟨Av, cv, rfl⟩ := h1.form
  exact ⟨Av, cv, rfl, h1, h2⟩

theorem mkR_len {hs : List Hp} : (mkR hs).length ≤ hs.length + 4 := by
  unfold mkR
  split
  · simp
  · have h1 := List.length_filter_le (edI (sortH (hs ++ frameL))) (sortH (hs ++ frameL))
    have h2 := sortH_len (hs ++ frameL)
    rw [List.length_append, show frameL.length = 4 from rfl] at h2
    omega

theorem set_0al {w : World} {b : Nat} {x : Value} (h : w.cell? ⟨b, 0, none⟩ = some x) (u : Value) (o : Obj) (hb : b < w.heap.size) : ((w.setCell ⟨b, 0, none⟩ u).alloc o).cell? ⟨b, 0, none⟩ = some u := by
  rw [World.cell?_alloc_past _ _ _ (by simpa using hb)]; exact set_0 h u

set_option maxHeartbeats 1000000 in
set_option maxRecDepth 100000 in
theorem l05Fit_any (A : Option Addr) (n c : Nat) (hs : List Hp) (w : World) (hn : n = hs.length) (hA : HsAt w w.heap.size A hs) (hm : n ≤ 40) (hok : hs.all okH = true) :
    Calls Try.prog 49 #[.slice A n c] w (RPost (rfR hs) (rfB hs) w) := by
  have hG : rfG hs = true := by unfold rfG; rw [hok, decide_eq_true (by omega)]; rfl
  have hok' : ∀ h ∈ hs, okH h = true := List.all_eq_true.1 hok
  obtain ⟨R, hR⟩ : ∃ R, mkR hs = R := ⟨_, rfl⟩
  have hRl := mkR_len (hs := hs)
  rw [hR] at hRl
  have HA := Lib.hid hA; clear hA
  have HN := Lib.hid hn
  have HK := Lib.hid hok'
  have HR := Lib.hid hR
  have hRn : R.length ≤ 44 := by omega
  clear hRl hok' hn
  by_cases hf : 40 < R.length
  · have HV := Lib.hid (show rfR hs = [] ∧ rfB hs = false by
      have e : rfB hs = false := by unfold rfB; rw [hR, decide_eq_false (by omega), Bool.and_false]
      refine ⟨?_, e⟩; unfold rfR; rw [e]; rfl)
    clear hR
    go_enter Try.func49, Try.ntmps49
    go_wp2_with fail
    go_at_call 46; refine (l05Make_to HR.out HN.out (HA.out.step ((Below.refl _ _).alloc (Nat.le_refl _) _)) (by omega) HK.out).mono ?_; rintro e w1 ⟨Av, cv, rfl, hO, hb⟩
    have cR := cell_keep (p := ⟨w.heap.size, 0, none⟩) (v := .slice none 0 0) hb (by first | (go_simp; done) | (simp; done)) (by simp)
    have fR := frozen_keep (p := ⟨w.heap.size, 0, none⟩) hb (by first | (go_simp; done) | (simp; done)) (by simp)
    have hS : Below w.heap.size w w1 := S_below hb (by repeat (first | exact Below.refl _ _ | assumption | refine below_drewN ?_ _ | refine Below.drew ?_ | refine Below.alloc ?_ (by first | omega | (simp <;> omega)) _ | refine Below.setCell ?_ (by first | omega | (simp <;> omega)) _)) (by simp)
    have hz : w.heap.size + 1 ≤ w1.heap.size := by have := hb.size; simpa using this
    have hlt1 : w.heap.size < w1.heap.size := by omega
    clear hb hO
    go_wp2_with fail
    exact bodyPost_ret (v := .tuple #[.agg #[.slice none 0 0], .bool false]) (by simp [results, Try.results49, go_sem, set_0al cR _ _ hlt1]) rfl ⟨none, 0, by rw [HV.out.1, HV.out.2]; rfl, by rw [HV.out.1]; exact World.ownsRow_nil _ _ _ _, (by repeat (first | exact Below.refl _ _ | assumption | refine below_drewN ?_ _ | refine Below.drew ?_ | refine Below.alloc ?_ (by first | omega | (simp <;> omega)) _ | refine Below.setCell ?_ (by first | omega | (simp <;> omega)) _))⟩
  · have HV := Lib.hid (show rfR hs = R ∧ rfB hs = true by
      have e : rfB hs = true := by unfold rfB; rw [hR, hG, decide_eq_true (by omega)]; rfl
      refine ⟨?_, e⟩; unfold rfR; rw [e, hR]; rfl)
    clear hR
    go_enter Try.func49, Try.ntmps49
    go_wp2_with fail
    go_at_call 46; refine (l05Make_to HR.out HN.out (HA.out.step ((Below.refl _ _).alloc (Nat.le_refl _) _)) (by omega) HK.out).mono ?_; rintro e w1 ⟨Av, cv, rfl, hO, hb⟩
    have cR := cell_keep (p := ⟨w.heap.size, 0, none⟩) (v := .slice none 0 0) hb (by first | (go_simp; done) | (simp; done)) (by simp)
    have fR := frozen_keep (p := ⟨w.heap.size, 0, none⟩) hb (by first | (go_simp; done) | (simp; done)) (by simp)
    have hS : Below w.heap.size w w1 := S_below hb (by repeat (first | exact Below.refl _ _ | assumption | refine below_drewN ?_ _ | refine Below.drew ?_ | refine Below.alloc ?_ (by first | omega | (simp <;> omega)) _ | refine Below.setCell ?_ (by first | omega | (simp <;> omega)) _)) (by simp)
    have hz : w.heap.size + 1 ≤ w1.heap.size := by have := hb.size; simpa using this
    have hlt1 : w.heap.size < w1.heap.size := by omega
    have HO := Lib.hid hO
    clear hb hO
    go_wp2_with fail
    have hOf := ((HO.out.setFar (p := ⟨w.heap.size, 0, none⟩) (HO.out.near (by simp)) (.slice Av R.length cv)).kept ((Below.refl _ _).alloc (Nat.le_refl _) (.cells #[.slice Av R.length cv] 33))).wide (B' := w.heap.size) (by simp)
    exact bodyPost_ret (v := .tuple #[.agg #[.slice Av R.length cv], .bool true]) (by simp [results, Try.results49, go_sem, set_0al cR _ _ hlt1]) rfl ⟨Av, cv, by rw [HV.out.1, HV.out.2], by rw [HV.out.1]; exact hOf, (by repeat (first | exact Below.refl _ _ | assumption | refine below_drewN ?_ _ | refine Below.drew ?_ | refine Below.alloc ?_ (by first | omega | (simp <;> omega)) _ | refine Below.setCell ?_ (by first | omega | (simp <;> omega)) _))⟩

theorem rf_no {hs : List Hp} (h : rfG hs = false) : rfR hs = [] ∧ rfB hs = false := by
  have e : rfB hs = false := by unfold rfB; rw [h]; rfl
  exact ⟨by unfold rfR; rw [e]; rfl, e⟩

theorem rfG_long {hs : List Hp} (h : 40 < hs.length) : rfG hs = false := by unfold rfG; rw [decide_eq_false (by omega)]; rfl

theorem rfG_not {hs : List Hp} (h : hs.all okH = false) : rfG hs = false := by unfold rfG; rw [h, Bool.and_false]

theorem sHalfOk_is {a b c : Int} {v : Bool} (h : halfOkV a b c = v) (w : World) :
    Calls Try.prog 48 #[.agg #[.int .i64 a, .int .i64 b, .int .i64 c]] w fun e w' => e = .returned (.bool v) ∧ Below w.heap.size w w' := by
  rw [← h]; exact sHalfOk_any a b c w

set_option maxHeartbeats 1000000 in
set_option maxRecDepth 100000 in
theorem sRegionFrom_any (A : Option Addr) (n c : Nat) (hs : List Hp) (w : World) (hn : n = hs.length) (hA : HsAt w w.heap.size A hs) (hm : n ≤ 4611686018427387904) :
    Calls Try.prog 29 #[.slice A n c] w (RPost (rfR hs) (rfB hs) w) := by
  have HA := Lib.hid hA; clear hA
  by_cases h40 : 40 < n
  · have HV := Lib.hid (rf_no (rfG_long (hs := hs) (by omega)))
    clear hn
    go_enter Try.func29, Try.ntmps29
    go_wp2_with fail
    exact bodyPost_ret (v := .tuple #[.agg #[.slice none 0 0], .bool false]) (by simp [results, Try.results29, go_sem]) rfl ⟨none, 0, by rw [HV.out.1, HV.out.2]; rfl, by rw [HV.out.1]; exact World.ownsRow_nil _ _ _ _, (by repeat (first | exact Below.refl _ _ | assumption | refine below_drewN ?_ _ | refine Below.drew ?_ | refine Below.alloc ?_ (by first | omega | (simp <;> omega)) _ | refine Below.setCell ?_ (by first | omega | (simp <;> omega)) _))⟩
  · have HN := Lib.hid hn
    clear hn
    go_enter Try.func29, Try.ntmps29
    go_wp2_with fail
    go_loopw [12] (fun i wr => ∃ k : Nat, k ≤ n ∧ i = .int .i64 k ∧ RowKit.Hid ((hs.take k).all okH = true) ∧ wr.cell? ⟨w.heap.size, 0, none⟩ = some (.slice none 0 0) ∧ wr.frozen? ⟨w.heap.size, 0, none⟩ = false ∧ w.heap.size < wr.heap.size ∧ Below w.heap.size w wr) (fun i _ => n - (intOf i).toNat)
    case atStart => exact ⟨0, Nat.zero_le _, rfl, (rfl : List.all [] okH = true), by first | (go_simp; done) | (simp; done), by first | (go_simp; done) | (simp; done), by simp, (by repeat (first | exact Below.refl _ _ | assumption | refine below_drewN ?_ _ | refine Below.drew ?_ | refine Below.alloc ?_ (by first | omega | (simp <;> omega)) _ | refine Below.setCell ?_ (by first | omega | (simp <;> omega)) _))⟩
    case round =>
      obtain ⟨k, hk, rfl, HE, cR, fR, hz, hb⟩ := hrel
      have hsz := hb.size
      by_cases hlt : k < n
      · have hl1 : k < hs.length := by have := HN.out; omega
        obtain ⟨b, off, rfl, hlb, c0, c1, c2⟩ := (HA.out.below hb).at_ hl1
        have hlb' : b < wr.heap.size := by omega
        cases ho : okH hs[k]
        all_goals
          first
            | have HV := Lib.hid (all_step HE.out hl1 ho)
            | have HV := Lib.hid (rf_no (rfG_not (all_not hl1 ho)))
          unfold okH at ho
          generalize hs[k] = x at *
          obtain ⟨x0, x1, x2⟩ := x
          simp only at c0 c1 c2 ho
          have HO := Lib.hid ho; clear ho
          go_wp2_with fail
          go_at_call 48; with_reducible refine (sHalfOk_is HO.out _).mono ?_
          rintro e w1 ⟨rfl, hb1⟩
          have cc_w10 := cell_keep (p := ⟨w.heap.size, 0, none⟩) (v := .slice none 0 0) hb1 (by first | assumption | (go_keep; done) | (go_simp; done) | (simp; done)) (by first | omega | (simp <;> omega))
          have cf_w10 := frozen_keep (p := ⟨w.heap.size, 0, none⟩) hb1 (by first | assumption | (go_keep; done) | (go_simp; done) | (simp; done)) (by first | omega | (simp <;> omega))
          have hS1_w1 : Below w.heap.size w w1 := S_below hb1 (by repeat (first | exact Below.refl _ _ | assumption | refine below_drewN ?_ _ | refine Below.drew ?_ | refine Below.alloc ?_ (by first | omega | (simp <;> omega)) _ | refine Below.setCell ?_ (by first | omega | (simp <;> omega)) _)) (by first | omega | (simp <;> omega))
          have hz1_w1 : w.heap.size ≤ w1.heap.size := S_size hb1 (by first | omega | (simp <;> omega))
          have hqb_w10 : w.heap.size < w1.heap.size := S_lt hb1 (by first | omega | (simp <;> omega))
          clear hb1
          go_wp2_with fail
        · exact bodyPost_ret (v := .tuple #[.agg #[.slice none 0 0], .bool false]) (by simp [results, Try.results29, go_sem, set_0 cc_w10]) rfl ⟨none, 0, by rw [HV.out.1, HV.out.2]; rfl, by rw [HV.out.1]; exact World.ownsRow_nil _ _ _ _, (by repeat (first | exact Below.refl _ _ | assumption | refine below_drewN ?_ _ | refine Below.drew ?_ | refine Below.alloc ?_ (by first | omega | (simp <;> omega)) _ | refine Below.setCell ?_ (by first | omega | (simp <;> omega)) _))⟩
        · go_roundw
          case rel => exact ⟨k + 1, by omega, by go_num, HV, cc_w10, cf_w10, hqb_w10, hS1_w1⟩
          case measure => simp [intOf]; omega
      · have HV := Lib.hid (all_end HE.out (by have := HN.out; omega))
        go_wp2_with fail
        go_at_call 49; refine (l05Fit_any _ n c hs wr HN.out (HA.out.step hb) (by omega) HV.out).mono ?_; rintro e w1 ⟨Av, cv, rfl, hO, hb1⟩
        have dR := cell_keep (p := ⟨w.heap.size, 0, none⟩) hb1 cR (by simp; omega)
        have gR := frozen_keep (p := ⟨w.heap.size, 0, none⟩) hb1 fR (by simp; omega)
        have hS1 : Below w.heap.size w w1 := S_below hb1 hb (by omega)
        have hOf := Lib.hid ((hO.setFar (p := ⟨w.heap.size, 0, none⟩) (hO.near (by simp; omega)) (.slice Av (rfR hs).length cv)).wide (B' := w.heap.size) (by omega))
        clear hb1 hO
        go_wp2_with fail
        exact bodyPost_ret (v := .tuple #[.agg #[.slice Av (rfR hs).length cv], .bool (rfB hs)]) (by simp [results, Try.results29, go_sem, set_0 dR]) rfl ⟨Av, cv, rfl, hOf.out, (by repeat (first | exact Below.refl _ _ | assumption | refine below_drewN ?_ _ | refine Below.drew ?_ | refine Below.alloc ?_ (by first | omega | (simp <;> omega)) _ | refine Below.setCell ?_ (by first | omega | (simp <;> omega)) _))⟩

end Go.Proofs.Ythdaoadleeelnaa
