/- Whole points of a column of a region: columnOf of the program. -/
import Derived.Test.YthdaoadleeelnaaRgW
namespace Go.Proofs.Ythdaoadleeelnaa
open Go.ChangeShapes Go.WideShapes Go.ChangeAt Go.RowKit
attribute [local go_sem ↓] Go.wp_at_zero Go.wp_at_succ
set_option linter.unusedVariables false

/-- One half plane bounds a column. -/
def colS (x : Int) (s : Int × Int) (h : Hp) : Int × Int :=
  if 0 < h.2.1 then (s.1, min s.2 ((h.2.2 - h.1 * x) / h.2.1)) else if h.2.1 < 0 then (max s.1 (-((h.2.2 - h.1 * x) / (-h.2.1))), s.2) else if h.2.2 < h.1 * x then (s.1, s.1 - 1) else s

def colF (hs : List Hp) (x : Int) : Int × Int := hs.foldl (colS x) (-1000, 1000)

def cntC (s : Int × Int) : Int := max (s.2 - s.1 + 1) 0

theorem colF_step {hs : List Hp} {x : Int} {k : Nat} (hk : k < hs.length) : colF (hs.take (k + 1)) x = colS x (colF (hs.take k) x) hs[k] := by
  unfold colF
  rw [List.take_succ_eq_append_getElem hk, List.foldl_append]; rfl

theorem colF_end {hs : List Hp} {x : Int} {k : Nat} (hk : ¬ k < hs.length) : colF (hs.take k) x = colF hs x := by
  rw [List.take_of_length_le (by omega)]

theorem col_up {x a b c p : Int} {s : Int × Int} {lo hi : Int} (hs : (lo, hi) = s) (hb : 0 < b) (hp : (c - a * x) / b = p) : colS x s (a, b, c) = (lo, min hi p) := by
  subst hs; subst hp; unfold colS; simp [hb]

theorem col_down {x a b c p : Int} {s : Int × Int} {lo hi : Int} (hs : (lo, hi) = s) (hb : b < 0) (hp : (c - a * x) / (-b) = p) : colS x s (a, b, c) = (max lo (-p), hi) := by
  subst hs; subst hp; unfold colS; simp only; rw [if_neg (by omega), if_pos hb]

theorem col_none {x a b c : Int} {s : Int × Int} {lo hi : Int} (hs : (lo, hi) = s) (hb : b = 0) (hx : c < a * x) : colS x s (a, b, c) = (lo, lo - 1) := by
  subst hs; unfold colS; simp only; rw [if_neg (by omega), if_neg (by omega), if_pos hx]

theorem col_all {x a b c : Int} {s : Int × Int} {lo hi : Int} (hs : (lo, hi) = s) (hb : b = 0) (hx : ¬ c < a * x) : colS x s (a, b, c) = (lo, hi) := by
  subst hs; unfold colS; simp only; rw [if_neg (by omega), if_neg (by omega), if_neg hx]

theorem colS_empty {x : Int} {s : Int × Int} (h : s.2 < s.1) (g : Hp) : (colS x s g).2 < (colS x s g).1 := by
  unfold colS
  split
  · simp only; omega
  · split
    · simp only; omega
    · split
      · simp only; omega
      · exact h

theorem colF_empty {x : Int} : ∀ (hs : List Hp) (s : Int × Int), s.2 < s.1 → (hs.foldl (colS x) s).2 < (hs.foldl (colS x) s).1
  | [], s, h => h
  | g :: hs, s, h => colF_empty hs _ (colS_empty h g)

theorem colF_none {hs : List Hp} {x : Int} {k : Nat} (hk : k < hs.length) (hb : hs[k].2.1 = 0) (hx : hs[k].2.2 < hs[k].1 * x) : cntC (colF hs x) = 0 := by
  have h1 : hs = hs.take (k + 1) ++ hs.drop (k + 1) := (List.take_append_drop _ _).symm
  have h2 : (colF hs x).2 < (colF hs x).1 := by
    rw [h1]
    unfold colF
    rw [List.foldl_append]
    refine colF_empty _ _ ?_
    have e := colF_step (x := x) hk
    unfold colF at e
    rw [e]
    have := col_none (x := x) (a := hs[k].1) (b := hs[k].2.1) (c := hs[k].2.2) (s := (hs.take k).foldl (colS x) (-1000, 1000)) (lo := ((hs.take k).foldl (colS x) (-1000, 1000)).1) (hi := ((hs.take k).foldl (colS x) (-1000, 1000)).2) rfl hb hx
    rw [show colS x ((hs.take k).foldl (colS x) (-1000, 1000)) hs[k] = _ from this]
    simp only; omega
  unfold cntC
  omega

theorem top_range {a b c x : Int} (h : okH (a, b, c) = true) (h1 : -1000 ≤ x) (h2 : x ≤ 1000) : (-50000000 ≤ a * x ∧ a * x ≤ 50000000) ∧ (-50000 ≤ b ∧ b ≤ 50000) ∧ (-100000000 ≤ c ∧ c ≤ 100000000) := by
  have b0 := okH_bounds h
  simp only at b0
  have m := mul_range a x 50000 1000 (by omega) (by omega) (by omega) (by omega)
  omega

theorem iFloor_is {a b p : Int} (h : a / b = p) (w : World) (h1 : -9223372036854775808 ≤ a) (h2 : a ≤ 9223372036854775807) (hb : 1 ≤ b) (hb2 : b ≤ 9223372036854775807) :
    Calls Try.prog 74 #[.int .i64 a, .int .i64 b] w fun e w' => e = .returned (.int .i64 p) ∧ w = w' := by
  subst h; exact iFloor_any a b w h1 h2 hb hb2

theorem floor_in {a b p K : Int} (h : a / b = p) (hb : 1 ≤ b) (h1 : -K ≤ a) (h2 : a ≤ K) (hK : 0 ≤ K) : -K ≤ p ∧ p ≤ K := by
  subst h
  have hbp : 0 < b := by omega
  constructor
  · rw [Int.le_ediv_iff_mul_le hbp]
    have : 0 ≤ K * (b - 1) := Int.mul_nonneg hK (by omega)
    grind
  · have : a / b ≤ K := Int.le_of_lt_add_one (by
      rw [Int.ediv_lt_iff_lt_mul hbp]
      have : 0 ≤ K * (b - 1) := Int.mul_nonneg hK (by omega)
      grind)
    exact this
set_option maxHeartbeats 400000 in
set_option maxRecDepth 100000 in
theorem iCeil_is {a b p : Int} (h : -a / b = p) (w : World) (h1 : -1000000000 ≤ a) (h2 : a ≤ 1000000000) (hb : 1 ≤ b) (hb2 : b ≤ 9223372036854775807) :
    Calls Try.prog 75 #[.int .i64 a, .int .i64 b] w fun e w' => e = .returned (.int .i64 (-p)) ∧ w = w' := by
  have hs := floor_in h hb (K := 1000000000) (by omega) (by omega) (by omega)
  have HP := Lib.hid h; clear h
  go_enter Try.func75, Try.ntmps75
  go_wp2_with (first | (go_at_call 74; with_reducible refine (iFloor_is HP.out _ (by omega) (by omega) hb hb2).mono ?_; rintro e w1 ⟨rfl, rfl⟩))
  go_ret
  exact ⟨rfl, rfl⟩

set_option maxHeartbeats 1000000 in
set_option maxRecDepth 100000 in
theorem columnOf_any (A : Option Addr) (n c : Nat) (hs : List Hp) (x : Int) (w : World) (hn : n = hs.length) (hA : HsAt w w.heap.size A hs) (hm : n ≤ 40) (hok : ∀ h ∈ hs, okH h = true) (hx1 : -1000 ≤ x) (hx2 : x ≤ 1000) :
    Calls Try.prog 58 #[.agg #[.slice A n c], .int .i64 x] w fun e w' => ∃ lo hi : Int, e = .returned (.tuple #[.int .i64 lo, .int .i64 hi]) ∧ cntC (lo, hi) = cntC (colF hs x) ∧ (-1000 ≤ lo ∧ lo ≤ 200000000) ∧ (-200000000 ≤ hi ∧ hi ≤ 1000) ∧ Below w.heap.size w w' := by
  have HA := Lib.hid hA; clear hA
  have HN := Lib.hid hn; clear hn
  have HK := Lib.hid hok; clear hok
  go_enter Try.func58, Try.ntmps58
  go_wp2_with fail
  go_loopw [6, 7, 14] (fun l h i wr => ∃ (k : Nat) (lo hi : Int), k ≤ n ∧ i = .int .i64 k ∧ l = .int .i64 lo ∧ h = .int .i64 hi ∧ RowKit.Hid ((lo, hi) = colF (hs.take k) x) ∧ (-1000 ≤ lo ∧ lo ≤ 200000000) ∧ (-200000000 ≤ hi ∧ hi ≤ 1000) ∧ Below w.heap.size w wr) (fun _ _ i _ => n - (intOf i).toNat)
  case atStart => exact ⟨0, -1000, 1000, Nat.zero_le _, rfl, rfl, rfl, (rfl : ((-1000 : Int), (1000 : Int)) = colF [] x), by omega, by omega, (by repeat (first | exact Below.refl _ _ | assumption | refine below_drewN ?_ _ | refine Below.drew ?_ | refine Below.alloc ?_ (by first | omega | (simp <;> omega)) _ | refine Below.setCell ?_ (by first | omega | (simp <;> omega)) _))⟩
  case round =>
    obtain ⟨k, lo, hi, hk, rfl, rfl, rfl, HE, ⟨l1, l2⟩, ⟨i1, i2⟩, hb⟩ := hrel
    have hsz := hb.size
    by_cases hlt : k < n
    · have hl1 : k < hs.length := by have := HN.out; omega
      obtain ⟨bL, oL, rfl, hlb, c0, c1, c2⟩ := (HA.out.below hb).at_ hl1
      have hlb' : bL < wr.heap.size := by omega
      have hst := colF_step (x := x) hl1
      have hno := colF_none (x := x) hl1
      have hkh := HK.out _ (List.getElem_mem hl1)
      generalize hs[k] = h at *
      obtain ⟨a, b, cc⟩ := h
      simp only at c0 c1 c2 hno
      obtain ⟨⟨m1, m2⟩, ⟨b1, b2⟩, t1, t2⟩ := top_range hkh hx1 hx2
      clear hkh
      have HS := Lib.hid hst; clear hst
      rcases (show 0 < b ∨ b < 0 ∨ b = 0 by omega) with hb0 | hb0 | hb0
      · obtain ⟨p, hp⟩ : ∃ p, (cc - a * x) / b = p := ⟨_, rfl⟩
        have hpb := floor_in hp (by omega) (K := 150000000) (by omega) (by omega) (by omega)
        have HV := Lib.hid (HS.out.trans (col_up HE.out hb0 hp))
        have HP := Lib.hid hp
        clear hp hno
        go_wp2_with (first | (go_at_call 74; with_reducible refine (iFloor_is HP.out _ (by omega) (by omega) (by omega) (by omega)).mono ?_; rintro e w1 ⟨rfl, rfl⟩))
        go_roundw
        case rel => exact ⟨k + 1, lo, min hi p, by omega, by go_num, rfl, rfl, HV.out.symm, ⟨l1, l2⟩, by omega, (by repeat (first | exact Below.refl _ _ | assumption | refine below_drewN ?_ _ | refine Below.drew ?_ | refine Below.alloc ?_ (by first | omega | (simp <;> omega)) _ | refine Below.setCell ?_ (by first | omega | (simp <;> omega)) _))⟩
        case measure => simp [intOf]; omega
      · obtain ⟨p, hp⟩ : ∃ p, (cc - a * x) / (-b) = p := ⟨_, rfl⟩
        have hpb := floor_in hp (by omega) (K := 150000000) (by omega) (by omega) (by omega)
        have HV := Lib.hid (HS.out.trans (col_down HE.out hb0 hp))
        have HP := Lib.hid hp
        have nb : ¬ 0 < b := by omega
        clear hp hno
        go_wp2_with (first | (go_at_call 75; with_reducible refine (iCeil_is (p := p) (by have := HP.out; rw [Int.neg_neg]; exact this) _ (by omega) (by omega) (by omega) (by omega)).mono ?_; rintro e w1 ⟨rfl, rfl⟩))
        go_roundw
        case rel => exact ⟨k + 1, max lo (-p), hi, by omega, by go_num, rfl, rfl, HV.out.symm, by omega, ⟨i1, i2⟩, (by repeat (first | exact Below.refl _ _ | assumption | refine below_drewN ?_ _ | refine Below.drew ?_ | refine Below.alloc ?_ (by first | omega | (simp <;> omega)) _ | refine Below.setCell ?_ (by first | omega | (simp <;> omega)) _))⟩
        case measure => simp [intOf]; omega
      · subst hb0
        by_cases hx : cc < a * x
        · have HV := Lib.hid (hno rfl hx)
          have hx0 : cc - a * x < 0 := by omega
          clear hno
          go_wp2_with fail
          exact bodyPost_ret (v := .tuple #[.int .i64 0, .int .i64 (-1)]) (by simp [results, Try.results58, go_sem]) rfl ⟨0, -1, rfl, (show cntC (0, -1) = 0 from rfl).trans HV.out.symm, by omega, by omega, (by repeat (first | exact Below.refl _ _ | assumption | refine below_drewN ?_ _ | refine Below.drew ?_ | refine Below.alloc ?_ (by first | omega | (simp <;> omega)) _ | refine Below.setCell ?_ (by first | omega | (simp <;> omega)) _))⟩
        · have HV := Lib.hid (HS.out.trans (col_all HE.out rfl hx))
          have hx0 : ¬ cc - a * x < 0 := by omega
          clear hno
          go_wp2_with fail
          go_roundw
          case rel => exact ⟨k + 1, lo, hi, by omega, by go_num, rfl, rfl, HV.out.symm, ⟨l1, l2⟩, ⟨i1, i2⟩, (by repeat (first | exact Below.refl _ _ | assumption | refine below_drewN ?_ _ | refine Below.drew ?_ | refine Below.alloc ?_ (by first | omega | (simp <;> omega)) _ | refine Below.setCell ?_ (by first | omega | (simp <;> omega)) _))⟩
          case measure => simp [intOf]; omega
    · have HV := Lib.hid (HE.out.trans (colF_end (x := x) (by have := HN.out; omega)))
      go_wp2_with fail
      exact bodyPost_ret (v := .tuple #[.int .i64 lo, .int .i64 hi]) (by simp [results, Try.results58, go_sem]) rfl ⟨lo, hi, rfl, by rw [HV.out], ⟨l1, l2⟩, ⟨i1, i2⟩, hb⟩

end Go.Proofs.Ythdaoadleeelnaa
