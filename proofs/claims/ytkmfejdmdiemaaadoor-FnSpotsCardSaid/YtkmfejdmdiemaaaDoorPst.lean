/- ParseSpot, of the program and of the reference: what is read; the walk of the law. -/
import Derived.Test.YtkmfejdmdiemaaaDoorPssS
namespace Go.Proofs.YtkmfejdmdiemaaaDoor
open Go.ChangeShapes Go.WideShapes Go.ChangeAt Go.RowKit
attribute [local go_sem ↓] Go.wp_at_zero Go.wp_at_succ
set_option linter.unusedVariables false

theorem psL_none1 (s : ByteArray) {a b : ByteArray} (h : prV a = none) : psL s [a, b] = none := by rw [psL, h]; rfl

theorem psL_none2 (s : ByteArray) {a b : ByteArray} (h : prV b = none) : psL s [a, b] = none := by rw [psL]; cases prV a <;> simp [h]

theorem psL_two (s : ByteArray) {a b : ByteArray} {X p Y q : Int} (h : prV a = some (X, p)) (h' : prV b = some (Y, q)) : psL s [a, b] = psC s X p Y q := by rw [psL, h, h']; rfl

theorem psL_len (s : ByteArray) {l : List ByteArray} (h : l.length ≠ 2) : psL s l = none := by
  match l, h with
  | [], _ => rfl
  | [_], _ => rfl
  | _ :: _ :: _ :: _, _ => rfl

theorem inB_no {n lo hi : Int} (h : inB n lo hi = false) : ¬ (lo ≤ n ∧ n ≤ hi) := by
  intro e; rw [(inB_iff _ _ _).2 e] at h; cases h

/-- What both versions find out of two fractions. -/
theorem psC_cases (s : ByteArray) {X p Y q : Int} (hX : ratioOkV X p = true) (hY : ratioOkV Y q = true) :
    ∃ g p' q' : Int, gcdV p q = g ∧ 1 ≤ g ∧ p.tdiv g = p' ∧ q.tdiv g = q' ∧ 1 ≤ p' ∧ p' ≤ p ∧ 1 ≤ q' ∧ q' ≤ q ∧ p' * q = p * q' ∧ (p * q').tdiv q = p' ∧ (p * q').tdiv p = q' ∧ 1 ≤ p * q' ∧
      (¬ (p ≤ 5000000000 ∧ q ≤ 5000000000) → psC s X p Y q = none) ∧ (¬ p * q' ≤ 5000000000 → psC s X p Y q = none) ∧
      (inB X (-1000 * p) (1000 * p) = false → psC s X p Y q = none) ∧ (inB Y (-1000 * q) (1000 * q) = false → psC s X p Y q = none) ∧
      (fmtS (X * q') (Y * p') (p * q') ≠ s → psC s X p Y q = none) ∧
      (p ≤ 5000000000 → q ≤ 5000000000 → p * q' ≤ 5000000000 → inB X (-1000 * p) (1000 * p) = true → inB Y (-1000 * q) (1000 * q) = true →
        spotOkV (X * q') (Y * p') (p * q') = true ∧ (fmtS (X * q') (Y * p') (p * q') = s → psC s X p Y q = some (X * q', Y * p', p * q'))) := by
  obtain ⟨⟨p1, p2⟩, _⟩ := ratioOkV_bounds hX
  obtain ⟨⟨q1, q2⟩, _⟩ := ratioOkV_bounds hY
  obtain ⟨g, p', q', hg, g1, h1, h2, e1, e2, hc, t1, t2⟩ := lcm_parts p1 (by omega) q1 (by omega)
  have gp : p' ≤ p := by
    have : 0 ≤ (g - 1) * p' := Int.mul_nonneg (by omega) (by omega)
    rw [e1]; grind
  have gq : q' ≤ q := by
    have : 0 ≤ (g - 1) * q' := Int.mul_nonneg (by omega) (by omega)
    rw [e2]; grind
  have pos : 0 < p * q' := Int.mul_pos (by omega) (by omega)
  have sw : p' * q = p * q' := by rw [e1, e2]; grind
  have dq : (p * q').tdiv q = p' := by rw [← sw, Int.mul_comm]; exact tdiv_cancel q1
  have dp : (p * q').tdiv p = q' := tdiv_cancel p1
  have hp : psC s X p Y q = if (p ≤ 5000000000 ∧ q ≤ 5000000000) ∧ p * q' ≤ 5000000000 ∧ (-1000 * p ≤ X ∧ X ≤ 1000 * p) ∧ (-1000 * q ≤ Y ∧ Y ≤ 1000 * q) ∧ fmtS (X * q') (Y * p') (p * q') = s then some (X * q', Y * p', p * q') else none := by
    unfold psC; rw [hg, t1, t2]
  refine ⟨g, p', q', hg, g1, t1, t2, h1, gp, h2, gq, sw, dq, dp, by omega, ?_, ?_, ?_, ?_, ?_, ?_⟩
  · intro h; rw [hp, if_neg (fun e => h e.1)]
  · intro h; rw [hp, if_neg (fun e => h e.2.1)]
  · intro h; rw [hp, if_neg (fun e => inB_no h e.2.2.1)]
  · intro h; rw [hp, if_neg (fun e => inB_no h e.2.2.2.1)]
  · intro h; rw [hp, if_neg (fun e => h e.2.2.2.2)]
  · intro a1 a2 a3 a4 a5
    have b1 := (inB_iff _ _ _).1 a4
    have b2 := (inB_iff _ _ _).1 a5
    refine ⟨?_, fun hf => by rw [hp, if_pos ⟨⟨a1, a2⟩, a3, b1, b2, hf⟩]⟩
    rw [e1] at hX a3 b1
    rw [e2] at hY b2
    have := joined_ok hc g1 h1 h2 hX hY a3 b1.1 b1.2 b2.1 b2.2
    rw [e1]
    exact this

theorem cap_lt {p x K : Int} (hp : 1 ≤ p) (hK : (5000000000 : Int).tdiv p = K) (h : K < x) : ¬ p * x ≤ 5000000000 := by
  rw [Int.tdiv_eq_ediv_of_nonneg (by omega)] at hK
  obtain ⟨f1, f2⟩ := floor_parts 5000000000 p hp
  rw [hK] at f1 f2
  have : 0 ≤ p * (x - K - 1) := Int.mul_nonneg (by omega) (by omega)
  intro e
  have e3 : p * (x - K - 1) = p * x - K * p - p := by grind
  omega

theorem cap_le {p x K : Int} (hp : 1 ≤ p) (hK : (5000000000 : Int).tdiv p = K) (h : x ≤ K) : p * x ≤ 5000000000 := by
  rw [Int.tdiv_eq_ediv_of_nonneg (by omega)] at hK
  obtain ⟨f1, f2⟩ := floor_parts 5000000000 p hp
  rw [hK] at f1 f2
  have : 0 ≤ p * (K - x) := Int.mul_nonneg (by omega) (by omega)
  have e3 : p * (K - x) = K * p - p * x := by grind
  omega

theorem cap_is {p : Int} (hp : 1 ≤ p) : ∃ K, (5000000000 : Int).tdiv p = K ∧ 0 ≤ K ∧ K ≤ 5000000000 := by
  refine ⟨_, rfl, ?_, ?_⟩
  · rw [Int.tdiv_eq_ediv_of_nonneg (by omega)]; exact Int.ediv_nonneg (by omega) (by omega)
  · rw [Int.tdiv_eq_ediv_of_nonneg (by omega)]; exact Int.ediv_le_self _ (by omega)

theorem iParseSpot_lit {s : ByteArray} {o : Option (Int × Int × Int)} (h : psV s = o) (w : World) (ht : Tab10 w) (he : Errs w) (hs : s.size ≤ 1048576) :
    Calls Tryd.prog 19 #[.string s] w fun e w' => e = .returned (PResS o) ∧ Below w.heap.size w w' := by
  subst h
  have hlen := pcsB_len s ⟨#[44]⟩
  have e0 : (⟨#[]⟩ : ByteArray).size ≤ 1048576 := by decide
  by_cases h2 : (pcsB s ⟨#[44]⟩).length = 2
  · obtain ⟨a, b, hl⟩ := list_two h2
    have ha : a.size ≤ s.size := pcsB_small (by_ := ⟨#[44]⟩) (by rw [hl]; simp)
    have hb : b.size ≤ s.size := pcsB_small (by_ := ⟨#[44]⟩) (by rw [hl]; simp)
    unfold psV
    rw [hl]
    cases hp : prV a with
    | none =>
      rw [psL_none1 s hp]
      cases hq : prV b with
      | none => exact iPS_NN (X := 0) (p := 0) (Y := 0) (q := 0) (g := 0) (p' := 0) (q' := 0) hl rfl rfl rfl hp hq w ht he hs (by omega) (by omega)
      | some y => obtain ⟨Y, q⟩ := y; exact iPS_NS (X := 0) (p := 0) (g := 0) (p' := 0) (q' := 0) hl rfl rfl rfl hp hq w ht he hs (by omega) (by omega)
    | some x =>
      obtain ⟨X, p⟩ := x
      cases hq : prV b with
      | none => rw [psL_none2 s hq]; exact iPS_SN (Y := 0) (q := 0) (g := 0) (p' := 0) (q' := 0) hl rfl rfl rfl hp hq w ht he hs (by omega) (by omega)
      | some y =>
        obtain ⟨Y, q⟩ := y
        rw [psL_two s hp hq]
        obtain ⟨⟨p1, p2⟩, _⟩ := ratioOkV_bounds (prV_some hp).1
        obtain ⟨⟨q1, q2⟩, _⟩ := ratioOkV_bounds (prV_some hq).1
        obtain ⟨g, p', q', hg, g1, t1, t2, h1, gp, h2', gq, sw, dq, dp, pos, n1, n2, n3, n4, n5, yes⟩ := psC_cases s (prV_some hp).1 (prV_some hq).1
        by_cases c1 : p ≤ 5000000000
        · by_cases c2 : q ≤ 5000000000
          · obtain ⟨K, hK, k0, k1⟩ := cap_is p1
            by_cases c3 : K < q'
            · rw [n2 (cap_lt p1 hK c3)]; exact iPS_L (p' := p') hl rfl rfl rfl hp hq c1 c2 hg g1 t2 h2' gq hK k0 k1 c3 w ht he hs (by omega) (by omega)
            · have hL := cap_le p1 hK (show q' ≤ K by omega)
              cases c4 : inB X (-1000 * p) (1000 * p) with
              | false => rw [n3 c4]; exact iPS_X (p' := p') hl rfl rfl rfl hp hq c1 c2 hg g1 t2 h2' gq hK k0 k1 (by omega) hL pos c4 w ht he hs (by omega) (by omega)
              | true =>
                cases c5 : inB Y (-1000 * q) (1000 * q) with
                | false => rw [n4 c5]; exact iPS_Y (p' := p') hl rfl rfl rfl hp hq c1 c2 hg g1 t2 h2' gq hK k0 k1 (by omega) hL pos c4 c5 w ht he hs (by omega) (by omega)
                | true =>
                  obtain ⟨ok, hy⟩ := yes c1 c2 hL c4 c5
                  obtain ⟨_, ⟨x1, x2⟩, y1, y2⟩ := spotOkV_bounds ok
                  by_cases c6 : fmtS (X * q') (Y * p') (p * q') = s
                  · rw [hy c6]; exact iPS_C hl rfl rfl rfl hp hq c1 c2 hg g1 t2 h2' gq hK k0 k1 (by omega) hL pos c4 c5 dq (by omega) (by omega) (by omega) (by omega) h1 gp c6 w ht he hs (by omega) (by omega)
                  · rw [n5 c6]; exact iPS_B hl rfl rfl rfl hp hq c1 c2 hg g1 t2 h2' gq hK k0 k1 (by omega) hL pos c4 c5 dq (by omega) (by omega) (by omega) (by omega) h1 gp c6 w ht he hs (by omega) (by omega)
          · rw [n1 (fun e => c2 e.2)]; exact iPS_q (g := 0) (p' := 0) (q' := 0) hl rfl rfl rfl hp hq c1 (by omega) w ht he hs (by omega) (by omega)
        · rw [n1 (fun e => c1 e.1)]; exact iPS_p (g := 0) (p' := 0) (q' := 0) hl rfl rfl rfl hp hq (by omega) w ht he hs (by omega) (by omega)
  · unfold psV
    rw [psL_len s h2]
    exact iPS_len (a := ⟨#[]⟩) (b := ⟨#[]⟩) (X := 0) (p := 0) (Y := 0) (q := 0) (g := 0) (p' := 0) (q' := 0) rfl h2 (by omega) w ht he hs e0 e0

theorem sParseSpot_lit {s : ByteArray} {o : Option (Int × Int × Int)} (h : psV s = o) (w : World) (hs : s.size ≤ 1048576) :
    Calls Tryd.prog 18 #[.string s] w fun e w' => e = .returned (PResS o) ∧ Below w.heap.size w w' := by
  subst h
  have hlen := pcsB_len s ⟨#[44]⟩
  have e0 : (⟨#[]⟩ : ByteArray).size ≤ 1048576 := by decide
  by_cases h2 : (pcsB s ⟨#[44]⟩).length = 2
  · obtain ⟨a, b, hl⟩ := list_two h2
    have ha : a.size ≤ s.size := pcsB_small (by_ := ⟨#[44]⟩) (by rw [hl]; simp)
    have hb : b.size ≤ s.size := pcsB_small (by_ := ⟨#[44]⟩) (by rw [hl]; simp)
    unfold psV
    rw [hl]
    cases hp : prV a with
    | none =>
      rw [psL_none1 s hp]
      cases hq : prV b with
      | none => exact sPS_NN (X := 0) (p := 0) (Y := 0) (q := 0) (g := 0) (p' := 0) (q' := 0) hl rfl rfl rfl hp hq w hs (by omega) (by omega)
      | some y => obtain ⟨Y, q⟩ := y; exact sPS_NS (X := 0) (p := 0) (g := 0) (p' := 0) (q' := 0) hl rfl rfl rfl hp hq w hs (by omega) (by omega)
    | some x =>
      obtain ⟨X, p⟩ := x
      cases hq : prV b with
      | none => rw [psL_none2 s hq]; exact sPS_SN (Y := 0) (q := 0) (g := 0) (p' := 0) (q' := 0) hl rfl rfl rfl hp hq w hs (by omega) (by omega)
      | some y =>
        obtain ⟨Y, q⟩ := y
        rw [psL_two s hp hq]
        obtain ⟨⟨p1, p2⟩, _⟩ := ratioOkV_bounds (prV_some hp).1
        obtain ⟨⟨q1, q2⟩, _⟩ := ratioOkV_bounds (prV_some hq).1
        obtain ⟨g, p', q', hg, g1, t1, t2, h1, gp, h2', gq, sw, dq, dp, pos, n1, n2, n3, n4, n5, yes⟩ := psC_cases s (prV_some hp).1 (prV_some hq).1
        rw [← sw] at dq dp pos n2 n5 yes
        by_cases c1 : p ≤ 5000000000
        · by_cases c2 : q ≤ 5000000000
          · obtain ⟨K, hK, k0, k1⟩ := cap_is q1
            by_cases c3 : K < p'
            · rw [n2 (by rw [Int.mul_comm]; exact cap_lt q1 hK c3)]; exact sPS_L (q' := q') hl rfl rfl rfl hp hq c1 c2 hg g1 t1 h1 gp hK k0 k1 c3 w hs (by omega) (by omega)
            · have hL : p' * q ≤ 5000000000 := by rw [Int.mul_comm]; exact cap_le q1 hK (show p' ≤ K by omega)
              cases c4 : inB X (-1000 * p) (1000 * p) with
              | false => rw [n3 c4]; exact sPS_X (q' := q') hl rfl rfl rfl hp hq c1 c2 hg g1 t1 h1 gp hK k0 k1 (by omega) hL pos c4 w hs (by omega) (by omega)
              | true =>
                cases c5 : inB Y (-1000 * q) (1000 * q) with
                | false => rw [n4 c5]; exact sPS_Y (q' := q') hl rfl rfl rfl hp hq c1 c2 hg g1 t1 h1 gp hK k0 k1 (by omega) hL pos c4 c5 w hs (by omega) (by omega)
                | true =>
                  obtain ⟨ok, hy⟩ := yes c1 c2 hL c4 c5
                  obtain ⟨_, ⟨x1, x2⟩, y1, y2⟩ := spotOkV_bounds ok
                  by_cases c6 : fmtS (X * q') (Y * p') (p' * q) = s
                  · rw [hy c6]; exact sPS_C hl rfl rfl rfl hp hq c1 c2 hg g1 t1 h1 gp hK k0 k1 (by omega) hL pos c4 c5 dp dq h2' gq (by omega) (by omega) (by omega) (by omega) ok c6 w hs (by omega) (by omega)
                  · rw [n5 c6]; exact sPS_B hl rfl rfl rfl hp hq c1 c2 hg g1 t1 h1 gp hK k0 k1 (by omega) hL pos c4 c5 dp dq h2' gq (by omega) (by omega) (by omega) (by omega) ok c6 w hs (by omega) (by omega)
          · rw [n1 (fun e => c2 e.2)]; exact sPS_q (g := 0) (p' := 0) (q' := 0) hl rfl rfl rfl hp hq c1 (by omega) w hs (by omega) (by omega)
        · rw [n1 (fun e => c1 e.1)]; exact sPS_p (g := 0) (p' := 0) (q' := 0) hl rfl rfl rfl hp hq (by omega) w hs (by omega) (by omega)
  · unfold psV
    rw [psL_len s h2]
    exact sPS_len (a := ⟨#[]⟩) (b := ⟨#[]⟩) (X := 0) (p := 0) (Y := 0) (q := 0) (g := 0) (p' := 0) (q' := 0) rfl h2 (by omega) w hs e0 e0

set_option maxHeartbeats 1000000 in
set_option maxRecDepth 100000 in
theorem exParseSpot_walk (s : ByteArray) (hs : s.size ≤ maxLen) (w : World) (ht : Tab10 w) (he : Errs w) :
    Calls Tryd.prog 6 #[.string s] w fun e w' => e = .returned (.bool true) ∧ Below w.heap.size w w' := by
  have HT := Lib.hid ht; clear ht
  have HE := Lib.hid he; clear he
  unfold maxLen at hs
  by_cases hz : 1048576 < s.size
  · go_enter Tryd.func6, Tryd.ntmps6
    go_wp2
    go_ret
    exact ⟨rfl, (by repeat (first | exact Below.refl _ _ | assumption | refine below_drewN ?_ _ | refine Below.drew ?_ | refine Below.alloc ?_ (by first | omega | (simp <;> omega)) _ | refine Below.setCell ?_ (by first | omega | (simp <;> omega)) _))⟩
  · obtain ⟨o, ho⟩ : ∃ o, psV s = o := ⟨_, rfl⟩
    have HO := Lib.hid ho; clear ho
    rcases o with _ | ⟨x, y, d⟩
    · go_enter Tryd.func6, Tryd.ntmps6
      go_wp2_with fail
      go_at_call 18; with_reducible refine (sParseSpot_lit HO.out _ (by omega)).mono ?_
      rintro e wa ⟨rfl, hb1⟩
      simp only [PResS]
      have hS1_wa : Below w.heap.size w wa := S_below hb1 (by repeat (first | exact Below.refl _ _ | assumption | refine below_drewN ?_ _ | refine Below.drew ?_ | refine Below.alloc ?_ (by first | omega | (simp <;> omega)) _ | refine Below.setCell ?_ (by first | omega | (simp <;> omega)) _)) (by first | omega | (simp <;> omega))
      have hz1_wa : w.heap.size ≤ wa.heap.size := S_size hb1 (by first | omega | (simp <;> omega))
      clear hb1
      go_wp2_with fail
      go_at_call 19; with_reducible refine (iParseSpot_lit HO.out _ (HT.out.step (by repeat (first | exact Below.refl _ _ | assumption | refine below_drewN ?_ _ | refine Below.drew ?_ | refine Below.alloc ?_ (by first | omega | (simp <;> omega)) _ | refine Below.setCell ?_ (by first | omega | (simp <;> omega)) _))) (HE.out.step (by repeat (first | exact Below.refl _ _ | assumption | refine below_drewN ?_ _ | refine Below.drew ?_ | refine Below.alloc ?_ (by first | omega | (simp <;> omega)) _ | refine Below.setCell ?_ (by first | omega | (simp <;> omega)) _))) (by omega)).mono ?_
      rintro e wb ⟨rfl, hb1⟩
      simp only [PResS]
      have cc_wb0 := cell_keep (p := ⟨wa.heap.size, 0, none⟩) (v := .int .i64 0) hb1 (by first | assumption | (go_keep; done) | (go_simp; done) | (simp; done)) (by first | omega | (simp <;> omega))
      have cc_wb1 := cell_keep (p := ⟨wa.heap.size, 1, none⟩) (v := .int .i64 0) hb1 (by first | assumption | (go_keep; done) | (go_simp; done) | (simp; done)) (by first | omega | (simp <;> omega))
      have cc_wb2 := cell_keep (p := ⟨wa.heap.size, 2, none⟩) (v := .int .i64 0) hb1 (by first | assumption | (go_keep; done) | (go_simp; done) | (simp; done)) (by first | omega | (simp <;> omega))
      have hS1_wb : Below w.heap.size w wb := S_below hb1 (by repeat (first | exact Below.refl _ _ | assumption | refine below_drewN ?_ _ | refine Below.drew ?_ | refine Below.alloc ?_ (by first | omega | (simp <;> omega)) _ | refine Below.setCell ?_ (by first | omega | (simp <;> omega)) _)) (by first | omega | (simp <;> omega))
      have hz1_wb : w.heap.size ≤ wb.heap.size := S_size hb1 (by first | omega | (simp <;> omega))
      have hqb_wb0 : wa.heap.size < wb.heap.size := S_lt hb1 (by first | omega | (simp <;> omega))
      clear hb1
      go_wp2_with (first | (go_at_call 20; with_reducible refine (eqSpot_same _ _ _ _).mono ?_; rintro e w1 ⟨rfl, hb1⟩; have hS1 : Below w.heap.size w w1 := S_below hb1 (by repeat (first | exact Below.refl _ _ | assumption | refine below_drewN ?_ _ | refine Below.drew ?_ | refine Below.alloc ?_ (by first | omega | (simp <;> omega)) _ | refine Below.setCell ?_ (by first | omega | (simp <;> omega)) _)) (by first | omega | (simp <;> omega)); have hz1 : w.heap.size ≤ w1.heap.size := S_size hb1 (by first | omega | (simp <;> omega)); clear hb1))
      go_ret
      exact ⟨rfl, (by repeat (first | exact Below.refl _ _ | assumption | refine below_drewN ?_ _ | refine Below.drew ?_ | refine Below.alloc ?_ (by first | omega | (simp <;> omega)) _ | refine Below.setCell ?_ (by first | omega | (simp <;> omega)) _))⟩
    · go_enter Tryd.func6, Tryd.ntmps6
      go_wp2_with fail
      go_at_call 18; with_reducible refine (sParseSpot_lit HO.out _ (by omega)).mono ?_
      rintro e wa ⟨rfl, hb1⟩
      simp only [PResS]
      have hS1_wa : Below w.heap.size w wa := S_below hb1 (by repeat (first | exact Below.refl _ _ | assumption | refine below_drewN ?_ _ | refine Below.drew ?_ | refine Below.alloc ?_ (by first | omega | (simp <;> omega)) _ | refine Below.setCell ?_ (by first | omega | (simp <;> omega)) _)) (by first | omega | (simp <;> omega))
      have hz1_wa : w.heap.size ≤ wa.heap.size := S_size hb1 (by first | omega | (simp <;> omega))
      clear hb1
      go_wp2_with fail
      go_at_call 19; with_reducible refine (iParseSpot_lit HO.out _ (HT.out.step (by repeat (first | exact Below.refl _ _ | assumption | refine below_drewN ?_ _ | refine Below.drew ?_ | refine Below.alloc ?_ (by first | omega | (simp <;> omega)) _ | refine Below.setCell ?_ (by first | omega | (simp <;> omega)) _))) (HE.out.step (by repeat (first | exact Below.refl _ _ | assumption | refine below_drewN ?_ _ | refine Below.drew ?_ | refine Below.alloc ?_ (by first | omega | (simp <;> omega)) _ | refine Below.setCell ?_ (by first | omega | (simp <;> omega)) _))) (by omega)).mono ?_
      rintro e wb ⟨rfl, hb1⟩
      simp only [PResS]
      have cc_wb0 := cell_keep (p := ⟨wa.heap.size, 0, none⟩) (v := .int .i64 x) hb1 (by first | assumption | (go_keep; done) | (go_simp; done) | (simp; done)) (by first | omega | (simp <;> omega))
      have cc_wb1 := cell_keep (p := ⟨wa.heap.size, 1, none⟩) (v := .int .i64 y) hb1 (by first | assumption | (go_keep; done) | (go_simp; done) | (simp; done)) (by first | omega | (simp <;> omega))
      have cc_wb2 := cell_keep (p := ⟨wa.heap.size, 2, none⟩) (v := .int .i64 d) hb1 (by first | assumption | (go_keep; done) | (go_simp; done) | (simp; done)) (by first | omega | (simp <;> omega))
      have hS1_wb : Below w.heap.size w wb := S_below hb1 (by repeat (first | exact Below.refl _ _ | assumption | refine below_drewN ?_ _ | refine Below.drew ?_ | refine Below.alloc ?_ (by first | omega | (simp <;> omega)) _ | refine Below.setCell ?_ (by first | omega | (simp <;> omega)) _)) (by first | omega | (simp <;> omega))
      have hz1_wb : w.heap.size ≤ wb.heap.size := S_size hb1 (by first | omega | (simp <;> omega))
      have hqb_wb0 : wa.heap.size < wb.heap.size := S_lt hb1 (by first | omega | (simp <;> omega))
      clear hb1
      go_wp2_with (first | (go_at_call 20; with_reducible refine (eqSpot_same _ _ _ _).mono ?_; rintro e w1 ⟨rfl, hb1⟩; have hS1 : Below w.heap.size w w1 := S_below hb1 (by repeat (first | exact Below.refl _ _ | assumption | refine below_drewN ?_ _ | refine Below.drew ?_ | refine Below.alloc ?_ (by first | omega | (simp <;> omega)) _ | refine Below.setCell ?_ (by first | omega | (simp <;> omega)) _)) (by first | omega | (simp <;> omega)); have hz1 : w.heap.size ≤ w1.heap.size := S_size hb1 (by first | omega | (simp <;> omega)); clear hb1))
      go_ret
      exact ⟨rfl, (by repeat (first | exact Below.refl _ _ | assumption | refine below_drewN ?_ _ | refine Below.drew ?_ | refine Below.alloc ?_ (by first | omega | (simp <;> omega)) _ | refine Below.setCell ?_ (by first | omega | (simp <;> omega)) _))⟩

end Go.Proofs.YtkmfejdmdiemaaaDoor
