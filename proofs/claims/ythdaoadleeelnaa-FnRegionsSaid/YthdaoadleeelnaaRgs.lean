/- Plane geometry of regions, without a program: the half planes with an edge alone bound the same points, a region made of its own edges is itself. The region that the reference makes of half planes: what it bounds, and that it is made of itself. What FnRegions asks, in plain integers. The walk of the law FnRegions. -/
import Derived.Test.YthdaoadleeelnaaPlane
import Derived.Test.YthdaoadleeelnaaMet
import Derived.Test.YthdaoadleeelnaaHsp
import Derived.Test.YthdaoadleeelnaaMkh
namespace Go.Proofs.Ythdaoadleeelnaa
open Go.ChangeShapes Go.WideShapes Go.ChangeAt Go.RowKit
attribute [local go_sem ↓] Go.wp_at_zero Go.wp_at_succ
set_option linter.unusedVariables false

def strH (g : Hp) (x y d : Int) : Prop := g.1 * x + g.2.1 * y < g.2.2 * d

def stL (L : List Hp) (x y d : Int) : Prop := ∀ g ∈ L, strH g x y d
/-- Two different points of a border lie inside. -/
def Two (h : Hp) (L : List Hp) : Prop := ∃ x y d x' y' d' : Int, (0 < d ∧ 0 < d') ∧ (onH h x y d ∧ onH h x' y' d') ∧ (insL L x y d ∧ insL L x' y' d') ∧ ¬ (x * d' = x' * d ∧ y * d' = y' * d)

theorem two_of_edge {h : Hp} {L : List Hp} (e : EdgeR h L) : Two h L := by
  obtain ⟨g, hg, g', hg', c, c', i, i', hne⟩ := e
  exact ⟨_, _, _, _, _, _, ⟨pD_pos c, pD_pos c'⟩, ⟨on_self h g, on_self h g'⟩, ⟨i, i'⟩, hne⟩

theorem edge_of_two {L : List Hp} (G : GoodL L) {h : Hp} (hd : dirH h) (t : Two h L) : EdgeB h L := by
  obtain ⟨x, y, d, x', y', d', ⟨pg, pk⟩, ⟨o, o'⟩, ⟨ig, ik⟩, hne⟩ := t
  rw [same_place hd o o'] at hne
  refine ⟨G.low h hd, G.up h hd, fun l hl u hu cl cu => ?_⟩
  have pl : 0 < pD h l := pD_pos (by omega)
  have pu : 0 < pD h u := pD_pos (by omega)
  have l1 := (in_low hd o cl).1 (ig l hl)
  have l2 := (in_low hd o' cl).1 (ik l hl)
  have u1 := (in_up hd o cu).1 (ig u hu)
  have u2 := (in_up hd o' cu).1 (ik u hu)
  unfold fltH
  rcases Int.lt_or_gt_of_ne hne with e | e
  · exact flt_of_lt_le pl pk pu (flt_of_le_lt pl pg pk l1 e) u2
  · exact flt_of_lt_le pl pg pu (flt_of_le_lt pl pk pg l2 e) u1

theorem edge_two {L : List Hp} (G : GoodL L) (N : NoVoid L) {h : Hp} (hh : h ∈ L) : EdgeR h L ↔ Two h L :=
  ⟨two_of_edge, fun t => (edge_iff G N hh).1 (edge_of_two G (G.prim h hh).1 t)⟩

theorem novoid_of_st {L : List Hp} (G : GoodL L) {x y d : Int} (hd : 0 < d) (st : stL L x y d) : NoVoid L := by
  intro g hg h hh hne h0
  have gd := (G.prim g hg).1
  have hd' := (G.prim h hh).1
  have hs := sorted_sd G.sorted hh hg (Ne.symm hne)
  obtain ⟨e1, e2⟩ := op_scale gd hd' (by rw [crH_neg]; omega : crH h g = 0) hs
  have p1 := szH_pos gd
  have p2 := szH_pos hd'
  have s1 := Int.mul_lt_mul_of_pos_left (st g hg) p2
  have s2 := Int.mul_lt_mul_of_pos_left (st h hh) p1
  have a1 : szH g * (h.1 * x + h.2.1 * y) = (szH g * h.1) * x + (szH g * h.2.1) * y := by grind
  rw [e1, e2] at a1
  have a2 : szH h * (g.1 * x + g.2.1 * y) = (szH h * g.1) * x + (szH h * g.2.1) * y := by grind
  have a3 : -(szH h * g.1) * x + -(szH h * g.2.1) * y = -((szH h * g.1) * x + (szH h * g.2.1) * y) := by grind
  have a4 : szH h * (g.2.2 * d) + szH g * (h.2.2 * d) = d * roomH g h := by unfold roomH; grind
  exact pos_of_pos_mul hd (by omega)

/-- A point and two near it that lie strictly inside. -/
theorem near_st (L : List Hp) : ∃ N : Int, 0 < N ∧ ∀ g ∈ L, g.1 < N ∧ g.2.1 < N := by
  induction L with
  | nil => exact ⟨1, by omega, by simp⟩
  | cons g L ih =>
    obtain ⟨N, hN, h⟩ := ih
    refine ⟨max N (max (g.1 + 1) (g.2.1 + 1)), by omega, fun k hk => ?_⟩
    rcases List.mem_cons.1 hk with rfl | hk
    · omega
    · have := h k hk; omega

theorem three_st {L : List Hp} {x y d : Int} (hd : 0 < d) (st : stL L x y d) : ∃ X Y D : Int, 0 < D ∧ stL L X Y D ∧ stL L (X + 1) Y D ∧ stL L X (Y + 1) D := by
  obtain ⟨N, hN, h⟩ := near_st L
  refine ⟨N * x, N * y, N * d, Int.mul_pos hN hd, ?_, ?_, ?_⟩
  all_goals
    intro g hg
    obtain ⟨c1, c2⟩ := h g hg
    have s := st g hg
    unfold strH at *
    have s1 := Int.mul_le_mul_of_nonneg_left (show g.1 * x + g.2.1 * y ≤ g.2.2 * d - 1 by omega) (Int.le_of_lt hN)
    have a1 : N * (g.1 * x + g.2.1 * y) = g.1 * (N * x) + g.2.1 * (N * y) := by grind
    have a2 : N * (g.2.2 * d - 1) = g.2.2 * (N * d) - N := by grind
  · omega
  · have : g.1 * (N * x + 1) = g.1 * (N * x) + g.1 := by grind
    omega
  · have : g.2.1 * (N * y + 1) = g.2.1 * (N * y) + g.2.1 := by grind
    omega

/-- The point where the way from one point to another crosses a border. -/
theorem way_in {k : Hp} {x y d x' y' d' s t : Int} (hs : 0 ≤ s) (ht : 0 ≤ t) (i : inH k x y d) (i' : inH k x' y' d') : inH k (t * x + s * x') (t * y + s * y') (t * d + s * d') := by
  unfold inH at *
  have a1 := Int.mul_le_mul_of_nonneg_left i ht
  have a2 := Int.mul_le_mul_of_nonneg_left i' hs
  have e1 : k.1 * (t * x + s * x') + k.2.1 * (t * y + s * y') = t * (k.1 * x + k.2.1 * y) + s * (k.1 * x' + k.2.1 * y') := by grind
  have e2 : k.2.2 * (t * d + s * d') = t * (k.2.2 * d) + s * (k.2.2 * d') := by grind
  omega

theorem way_on (k : Hp) (x y d x' y' d' : Int) : onH k ((k.1 * x' + k.2.1 * y' - k.2.2 * d') * x + (k.2.2 * d - (k.1 * x + k.2.1 * y)) * x') ((k.1 * x' + k.2.1 * y' - k.2.2 * d') * y + (k.2.2 * d - (k.1 * x + k.2.1 * y)) * y') ((k.1 * x' + k.2.1 * y' - k.2.2 * d') * d + (k.2.2 * d - (k.1 * x + k.2.1 * y)) * d') := by
  unfold onH; grind

theorem st_in {g : Hp} {x y d : Int} (h : strH g x y d) : inH g x y d := by unfold strH inH at *; omega

/-- Not both ways from near points meet a border where the way from the point itself does. -/
theorem ways_differ {a b c X Y D x' y' d' g s : Int} (hD : 0 < D) (hd : 0 < d') (hg : g = a * x' + b * y' - c * d') (hs : s = c * D - (a * X + b * Y)) (g0 : 0 < g) (s0 : 0 < s)
    (e1 : (g * X + s * x') * (g * D + (s - a) * d') = (g * (X + 1) + (s - a) * x') * (g * D + s * d') ∧ (g * Y + s * y') * (g * D + (s - a) * d') = (g * Y + (s - a) * y') * (g * D + s * d'))
    (e2 : (g * X + s * x') * (g * D + (s - b) * d') = (g * X + (s - b) * x') * (g * D + s * d') ∧ (g * Y + s * y') * (g * D + (s - b) * d') = (g * (Y + 1) + (s - b) * y') * (g * D + s * d')) : False := by
  have w : 0 < g * D + s * d' := by have := Int.mul_pos g0 hD; have := Int.mul_pos s0 hd; omega
  have hw : g * D + s * d' = -(a * (X * d' - x' * D) + b * (Y * d' - y' * D)) := by subst hg; subst hs; grind
  have hv : g * (b * (X * d' - x' * D)) = 0 := by have := e2.1; grind
  have hu : g * (a * (Y * d' - y' * D)) = 0 := by have := e1.2; grind
  have h1 : g * (a * (X * d' - x' * D) + (g * D + s * d')) = 0 := by have := e1.1; grind
  have h2 : g * (b * (Y * d' - y' * D) + (g * D + s * d')) = 0 := by have := e2.2; grind
  have gn : g ≠ 0 := by omega
  have k1 := (Int.mul_eq_zero.1 h1).resolve_left gn
  have k2 := (Int.mul_eq_zero.1 h2).resolve_left gn
  omega

/-- A border that the way to a point outside crosses has two points inside, where all others hold the point. -/
theorem two_of_out {L K : List Hp} {g : Hp} {X Y D x' y' d' : Int} (hD : 0 < D) (hd : 0 < d') (s0 : stL L X Y D) (s1 : stL L (X + 1) Y D) (s2 : stL L X (Y + 1) D) (hg : g ∈ L) (hK : ∀ k ∈ K, k ∈ L) (hin : insL K x' y' d') (hout : ¬ inH g x' y' d')
    (hall : ∀ x y d, 0 < d → insL (g :: K) x y d → insL L x y d) : Two g L := by
  have g0 : 0 < g.1 * x' + g.2.1 * y' - g.2.2 * d' := by unfold inH at hout; omega
  have t0 := s0 g hg
  have t1 := s1 g hg
  have t2 := s2 g hg
  unfold strH at t0 t1 t2
  have mk : ∀ {x y : Int}, stL L x y D → 0 < g.2.2 * D - (g.1 * x + g.2.1 * y) →
      0 < (g.1 * x' + g.2.1 * y' - g.2.2 * d') * D + (g.2.2 * D - (g.1 * x + g.2.1 * y)) * d' ∧
      onH g ((g.1 * x' + g.2.1 * y' - g.2.2 * d') * x + (g.2.2 * D - (g.1 * x + g.2.1 * y)) * x') ((g.1 * x' + g.2.1 * y' - g.2.2 * d') * y + (g.2.2 * D - (g.1 * x + g.2.1 * y)) * y') ((g.1 * x' + g.2.1 * y' - g.2.2 * d') * D + (g.2.2 * D - (g.1 * x + g.2.1 * y)) * d') ∧
      insL L ((g.1 * x' + g.2.1 * y' - g.2.2 * d') * x + (g.2.2 * D - (g.1 * x + g.2.1 * y)) * x') ((g.1 * x' + g.2.1 * y' - g.2.2 * d') * y + (g.2.2 * D - (g.1 * x + g.2.1 * y)) * y') ((g.1 * x' + g.2.1 * y' - g.2.2 * d') * D + (g.2.2 * D - (g.1 * x + g.2.1 * y)) * d') := by
    intro x y st hpos
    have hw : 0 < (g.1 * x' + g.2.1 * y' - g.2.2 * d') * D + (g.2.2 * D - (g.1 * x + g.2.1 * y)) * d' := by
      have := Int.mul_pos g0 hD
      have := Int.mul_pos hpos hd
      omega
    have ho := way_on g x y D x' y' d'
    refine ⟨hw, ho, hall _ _ _ hw ?_⟩
    intro k hk
    rcases List.mem_cons.1 hk with rfl | hk
    · unfold onH at ho; unfold inH; omega
    · exact way_in (Int.le_of_lt hpos) (Int.le_of_lt g0) (st_in (st k (hK k hk))) (hin k hk)
  obtain ⟨w0, o0, i0⟩ := mk s0 (by omega)
  obtain ⟨w1, o1, i1⟩ := mk s1 (by omega)
  obtain ⟨w2, o2, i2⟩ := mk s2 (by omega)
  by_cases e1 : (((g.1 * x' + g.2.1 * y' - g.2.2 * d') * X + (g.2.2 * D - (g.1 * X + g.2.1 * Y)) * x') * ((g.1 * x' + g.2.1 * y' - g.2.2 * d') * D + (g.2.2 * D - (g.1 * (X + 1) + g.2.1 * Y)) * d') = ((g.1 * x' + g.2.1 * y' - g.2.2 * d') * (X + 1) + (g.2.2 * D - (g.1 * (X + 1) + g.2.1 * Y)) * x') * ((g.1 * x' + g.2.1 * y' - g.2.2 * d') * D + (g.2.2 * D - (g.1 * X + g.2.1 * Y)) * d') ∧
      ((g.1 * x' + g.2.1 * y' - g.2.2 * d') * Y + (g.2.2 * D - (g.1 * X + g.2.1 * Y)) * y') * ((g.1 * x' + g.2.1 * y' - g.2.2 * d') * D + (g.2.2 * D - (g.1 * (X + 1) + g.2.1 * Y)) * d') = ((g.1 * x' + g.2.1 * y' - g.2.2 * d') * Y + (g.2.2 * D - (g.1 * (X + 1) + g.2.1 * Y)) * y') * ((g.1 * x' + g.2.1 * y' - g.2.2 * d') * D + (g.2.2 * D - (g.1 * X + g.2.1 * Y)) * d'))
  · by_cases e2 : (((g.1 * x' + g.2.1 * y' - g.2.2 * d') * X + (g.2.2 * D - (g.1 * X + g.2.1 * Y)) * x') * ((g.1 * x' + g.2.1 * y' - g.2.2 * d') * D + (g.2.2 * D - (g.1 * X + g.2.1 * (Y + 1))) * d') = ((g.1 * x' + g.2.1 * y' - g.2.2 * d') * X + (g.2.2 * D - (g.1 * X + g.2.1 * (Y + 1))) * x') * ((g.1 * x' + g.2.1 * y' - g.2.2 * d') * D + (g.2.2 * D - (g.1 * X + g.2.1 * Y)) * d') ∧
        ((g.1 * x' + g.2.1 * y' - g.2.2 * d') * Y + (g.2.2 * D - (g.1 * X + g.2.1 * Y)) * y') * ((g.1 * x' + g.2.1 * y' - g.2.2 * d') * D + (g.2.2 * D - (g.1 * X + g.2.1 * (Y + 1))) * d') = ((g.1 * x' + g.2.1 * y' - g.2.2 * d') * (Y + 1) + (g.2.2 * D - (g.1 * X + g.2.1 * (Y + 1))) * y') * ((g.1 * x' + g.2.1 * y' - g.2.2 * d') * D + (g.2.2 * D - (g.1 * X + g.2.1 * Y)) * d'))
    · exfalso
      rw [show g.2.2 * D - (g.1 * (X + 1) + g.2.1 * Y) = g.2.2 * D - (g.1 * X + g.2.1 * Y) - g.1 by grind] at e1
      rw [show g.2.2 * D - (g.1 * X + g.2.1 * (Y + 1)) = g.2.2 * D - (g.1 * X + g.2.1 * Y) - g.2.1 by grind] at e2
      exact ways_differ hD hd rfl rfl g0 (by omega) e1 e2
    · exact ⟨_, _, _, _, _, _, ⟨w0, w2⟩, ⟨o0, o2⟩, ⟨i0, i2⟩, e2⟩
  · exact ⟨_, _, _, _, _, _, ⟨w0, w1⟩, ⟨o0, o1⟩, ⟨i0, i1⟩, e1⟩

/-- Half planes without an edge are not needed. -/
theorem redundant {L : List Hp} {x0 y0 d0 : Int} (hd0 : 0 < d0) (st : stL L x0 y0 d0) : ∀ (S K : List Hp), (∀ k ∈ K, k ∈ L) → (∀ g ∈ S, g ∈ L ∧ ¬ Two g L) → (∀ x y d, 0 < d → insL (S ++ K) x y d → insL L x y d) → ∀ x y d, 0 < d → insL K x y d → insL L x y d
  | [], K, _, _, h, x, y, d, hd, hi => h x y d hd hi
  | g :: S, K, hK, hS, h, x, y, d, hd, hi => by
    obtain ⟨X, Y, D, hD, s0, s1, s2⟩ := three_st hd0 st
    refine redundant hd0 st S K hK (fun g' hg' => hS g' (by simp [hg'])) (fun x y d hd hi => ?_) x y d hd hi
    by_cases hin : inH g x y d
    · refine h x y d hd ?_
      intro k hk
      rw [List.cons_append] at hk
      rcases List.mem_cons.1 hk with rfl | hk
      · exact hin
      · exact hi k hk
    · exfalso
      obtain ⟨hgL, hgn⟩ := hS g (by simp)
      refine hgn (two_of_out hD hd s0 s1 s2 hgL (K := S ++ K) ?_ hi hin (fun x y d hd hi => h x y d hd hi))
      intro k hk
      rcases List.mem_append.1 hk with e | e
      · exact (hS k (by simp [e])).1
      · exact hK k e

theorem edges_enough {L : List Hp} (p : Hp → Bool) (hp : ∀ h ∈ L, (p h = true ↔ Two h L)) {x0 y0 d0 : Int} (hd0 : 0 < d0) (st : stL L x0 y0 d0) {x y d : Int} (hd : 0 < d) (hi : insL (L.filter p) x y d) : insL L x y d := by
  refine redundant hd0 st (L.filter fun h => !p h) (L.filter p) (fun k hk => (List.mem_filter.1 hk).1) (fun g hg => ?_) (fun x y d hd hi k hk => ?_) x y d hd hi
  · obtain ⟨h1, h2⟩ := List.mem_filter.1 hg
    refine ⟨h1, fun t => ?_⟩
    rw [(hp g h1).2 t] at h2
    simp at h2
  · refine hi k ?_
    rw [List.mem_append, List.mem_filter, List.mem_filter]
    cases e : p k
    · exact .inl ⟨hk, rfl⟩
    · exact .inr ⟨hk, rfl⟩

/-- The middle of two points. -/
theorem mid_in {k : Hp} {x y d x' y' d' : Int} (hd : 0 < d) (hd' : 0 < d') (i : inH k x y d) (i' : inH k x' y' d') : inH k (d' * x + d * x') (d' * y + d * y') (d' * d + d * d') := way_in (Int.le_of_lt hd) (Int.le_of_lt hd') i i'

theorem mid_pos {d d' : Int} (hd : 0 < d) (hd' : 0 < d') : 0 < d' * d + d * d' := by
  have := Int.mul_pos hd' hd
  have := Int.mul_pos hd hd'
  omega

theorem mid_on {k : Hp} {x y d x' y' d' : Int} (hd : 0 < d) (hd' : 0 < d') (i : inH k x y d) (i' : inH k x' y' d') (ho : ¬ strH k (d' * x + d * x') (d' * y + d * y') (d' * d + d * d')) : onH k x y d ∧ onH k x' y' d' := by
  unfold strH inH onH at *
  have e1 : k.1 * (d' * x + d * x') + k.2.1 * (d' * y + d * y') = d' * (k.1 * x + k.2.1 * y) + d * (k.1 * x' + k.2.1 * y') := by grind
  have e2 : k.2.2 * (d' * d + d * d') = d' * (k.2.2 * d) + d * (k.2.2 * d') := by grind
  have a1 := Int.mul_le_mul_of_nonneg_left i (Int.le_of_lt hd')
  have a2 := Int.mul_le_mul_of_nonneg_left i' (Int.le_of_lt hd)
  have b1 : d' * (k.1 * x + k.2.1 * y) = d' * (k.2.2 * d) := by omega
  have b2 : d * (k.1 * x' + k.2.1 * y') = d * (k.2.2 * d') := by omega
  exact ⟨Int.eq_of_mul_eq_mul_left (by omega) b1, Int.eq_of_mul_eq_mul_left (by omega) b2⟩

theorem same_line {h g : Hp} (hd : dirH h) {x y d x' y' d' : Int} (o : onH h x y d) (o' : onH h x' y' d') (p : onH g x y d) (p' : onH g x' y' d') (hne : ¬ (x * d' = x' * d ∧ y * d' = y' * d)) : crH h g = 0 := by
  rw [same_place hd o o'] at hne
  have e := place_in o g
  have e' := place_in o' g
  unfold onH at p p'
  rw [show g.1 * x + g.2.1 * y - g.2.2 * d = 0 by omega, Int.mul_zero] at e
  rw [show g.1 * x' + g.2.1 * y' - g.2.2 * d' = 0 by omega, Int.mul_zero] at e'
  generalize h.1 * y - h.2.1 * x = n at *
  generalize h.1 * y' - h.2.1 * x' = n' at *
  have k : (n * d' - n' * d) * crH h g = 0 := by grind
  rcases Int.mul_eq_zero.1 k with q | q
  · exact absurd (by omega) hne
  · exact q

theorem par_trans {h k g : Hp} (hg : dirH g) (h1 : crH h g = 0) (h2 : crH k g = 0) : crH h k = 0 := by
  unfold dirH at hg
  have e1 : crH h k * g.1 = 0 := by
    have : crH h k * g.1 = crH h g * k.1 - crH k g * h.1 := by unfold crH; grind
    rw [this, h1, h2]; simp
  have e2 : crH h k * g.2.1 = 0 := by
    have : crH h k * g.2.1 = crH h g * k.2.1 - crH k g * h.2.1 := by unfold crH; grind
    rw [this, h1, h2]; simp
  rcases Int.mul_eq_zero.1 e1 with q | q
  · exact q
  · rcases Int.mul_eq_zero.1 e2 with q' | q'
    · exact q'
    · exact absurd ⟨q, q'⟩ hg

/-- Two borders that are not parallel, with two points inside each: some point lies strictly inside. -/
theorem int_of_two {L : List Hp} (hL : ∀ g ∈ L, dirH g) {h k : Hp} (hh : dirH h) (hk : dirH k) (t : Two h L) (t' : Two k L) (hc : crH h k ≠ 0) : ∃ x y d, 0 < d ∧ stL L x y d := by
  obtain ⟨x, y, d, x', y', d', ⟨p, p'⟩, ⟨o, o'⟩, ⟨i, i'⟩, hne⟩ := t
  obtain ⟨u, v, e, u', v', e', ⟨q, q'⟩, ⟨r, r'⟩, ⟨j, j'⟩, hne'⟩ := t'
  refine ⟨(e' * e + e * e') * (d' * x + d * x') + (d' * d + d * d') * (e' * u + e * u'), (e' * e + e * e') * (d' * y + d * y') + (d' * d + d * d') * (e' * v + e * v'), (e' * e + e * e') * (d' * d + d * d') + (d' * d + d * d') * (e' * e + e * e'), mid_pos (mid_pos p p') (mid_pos q q'), fun g hg => ?_⟩
  by_cases s : strH g ((e' * e + e * e') * (d' * x + d * x') + (d' * d + d * d') * (e' * u + e * u')) ((e' * e + e * e') * (d' * y + d * y') + (d' * d + d * d') * (e' * v + e * v')) ((e' * e + e * e') * (d' * d + d * d') + (d' * d + d * d') * (e' * e + e * e'))
  · exact s
  · exfalso
    obtain ⟨a, b⟩ := mid_on (mid_pos p p') (mid_pos q q') (mid_in p p' (i g hg) (i' g hg)) (mid_in q q' (j g hg) (j' g hg)) s
    obtain ⟨a1, a2⟩ := mid_on p p' (i g hg) (i' g hg) (by unfold strH; unfold onH at a; omega)
    obtain ⟨b1, b2⟩ := mid_on q q' (j g hg) (j' g hg) (by unfold strH; unfold onH at b; omega)
    exact hc (par_trans (hL g hg) (same_line hh o o' a1 a2 hne) (same_line hk r r' b1 b2 hne'))

theorem sorted_ext : ∀ (l m : List Hp), SortedH l → SortedH m → (∀ x, x ∈ l ↔ x ∈ m) → l = m
  | [], [], _, _, _ => rfl
  | [], y :: m, _, _, h => by have := (h y).2 (by simp); simp at this
  | x :: l, [], _, _, h => by have := (h x).1 (by simp); simp at this
  | x :: l, y :: m, hl, hm, h => by
    unfold SortedH at hl hm
    rw [List.pairwise_cons] at hl hm
    have e : x = y := by
      rcases List.mem_cons.1 ((h x).1 (by simp)) with e | e
      · exact e
      · rcases List.mem_cons.1 ((h y).2 (by simp)) with e' | e'
        · exact e'.symm
        · have a := hm.1 x e
          have b := hl.1 y e'
          rcases tri x y with ⟨_, _, q, _⟩ | ⟨q, _, _, _⟩ | ⟨q, _, _, _⟩
          · rw [q] at a; cases a
          · rw [q] at b; cases b
          · rw [q] at b; cases b
    subst e
    rw [sorted_ext l m hl.2 hm.2 (fun z => ?_)]
    constructor
    · intro hz
      rcases List.mem_cons.1 ((h z).1 (by simp [hz])) with q | q
      · subst q; have := hl.1 z hz; rw [befH_irrefl] at this; cases this
      · exact q
    · intro hz
      rcases List.mem_cons.1 ((h z).2 (by simp [hz])) with q | q
      · subst q; have := hm.1 z hz; rw [befH_irrefl] at this; cases this
      · exact q

theorem cover_str {L : List Hp} (hL : ∀ x ∈ L, primH x) {e : Hp} (he : primH e) (hc : Covers L e) {x y d : Int} (hd : 0 < d) (hi : stL L x y d) : strH e x y d := by
  obtain ⟨g, hg, hs, hl⟩ := hc
  obtain ⟨s1, s2⟩ := sd_scale he.1 (hL g hg).1 hs
  have p1 := szH_pos he.1
  have p2 := szH_pos (hL g hg).1
  have i := hi g hg
  unfold strH at *
  unfold ltH at hl
  have a1 := Int.mul_lt_mul_of_pos_left i p1
  have a2 := Int.mul_le_mul_of_nonneg_right (Int.not_lt.1 hl) (Int.le_of_lt hd)
  have e1 : szH e * (g.1 * x + g.2.1 * y) = (szH e * g.1) * x + (szH e * g.2.1) * y := by grind
  rw [s1, s2] at e1
  have e2 : szH g * (e.1 * x + e.2.1 * y) = szH g * e.1 * x + szH g * e.2.1 * y := by grind
  have e3 : szH e * (g.2.2 * d) = g.2.2 * szH e * d := by grind
  have e4 : szH g * (e.2.2 * d) = e.2.2 * szH g * d := by grind
  have : szH g * (e.1 * x + e.2.1 * y) < szH g * (e.2.2 * d) := by omega
  exact Int.lt_of_mul_lt_mul_left this (Int.le_of_lt p2)

/-- A half plane with a border point inside a tighter one is that one. -/
theorem cover_tie {L : List Hp} (hL : ∀ x ∈ L, primH x) {e : Hp} (he : primH e) (hc : Covers L e) {x y d : Int} (hd : 0 < d) (ho : onH e x y d) (hi : insL L x y d) : e ∈ L := by
  obtain ⟨g, hg, hs, hl⟩ := hc
  obtain ⟨s1, s2⟩ := sd_scale he.1 (hL g hg).1 hs
  have p1 := szH_pos he.1
  have p2 := szH_pos (hL g hg).1
  have i := hi g hg
  unfold inH at i
  unfold onH at ho
  unfold ltH at hl
  have a1 := Int.mul_le_mul_of_nonneg_left i (Int.le_of_lt p1)
  have e1 : szH e * (g.1 * x + g.2.1 * y) = (szH e * g.1) * x + (szH e * g.2.1) * y := by grind
  rw [s1, s2] at e1
  have e2 : szH g * (e.1 * x + e.2.1 * y) = szH g * e.1 * x + szH g * e.2.1 * y := by grind
  rw [ho] at e2
  have e3 : szH e * (g.2.2 * d) = d * (g.2.2 * szH e) := by grind
  have e4 : szH g * (e.2.2 * d) = d * (e.2.2 * szH g) := by grind
  have k : e.2.2 * szH g ≤ g.2.2 * szH e := Int.le_of_mul_le_mul_left (show d * (e.2.2 * szH g) ≤ d * (g.2.2 * szH e) by omega) hd
  have : g = e := tie_eq (hL g hg) he hs (by omega)
  exact this ▸ hg

theorem made_of_int {L : List Hp} (G : GoodL L) (p : Hp → Bool) (hp : ∀ h ∈ L, (p h = true ↔ EdgeR h L)) (hfr : ∀ x y d, 0 < d → insL L x y d → x ≤ 1000 * d) {x y d : Int} (hd : 0 < d) (st : stL L x y d) :
    3 ≤ (L.filter p).length ∧ (∀ h ∈ L, (p h = true ↔ Two h L)) := by
  have N := novoid_of_st G hd st
  have hp' : ∀ h ∈ L, (p h = true ↔ Two h L) := fun h hh => (hp h hh).trans (edge_two G N hh)
  refine ⟨?_, hp'⟩
  cases hf : L.filter p with
  | nil =>
    exfalso
    have := hfr 2000 0 1 (by omega) (edges_enough p hp' hd st (by omega) (by rw [hf]; intro g hg; simp at hg))
    omega
  | cons h l =>
    rw [← hf]
    have hx : h ∈ L.filter p := by rw [hf]; simp
    obtain ⟨h1, h2⟩ := List.mem_filter.1 hx
    exact three_edges G N h1 ((edge_iff G N h1).2 ((hp h h1).1 h2)) p (fun g hg he => (hp g hg).2 ((edge_iff G N hg).1 he))

theorem int_of_made {L : List Hp} (G : GoodL L) (p : Hp → Bool) (hp : ∀ h ∈ L, (p h = true ↔ EdgeR h L)) (h3 : ¬ (L.filter p).length < 3) : ∃ x y d, 0 < d ∧ stL L x y d := by
  have N : NoVoid L := by
    rcases Classical.em (NoVoid L) with N | N
    · exact N
    · exact absurd ((make_same G (edB L) p (fun y _ => edB_iff L y) hp).2 N) h3
  cases hf : L.filter p with
  | nil => rw [hf] at h3; simp at h3
  | cons h l =>
    have hx : h ∈ L.filter p := by rw [hf]; simp
    obtain ⟨h1, h2⟩ := List.mem_filter.1 hx
    have he := (hp h h1).1 h2
    obtain ⟨g, hg, hc, hb⟩ := next_edge G N h1 ((edge_iff G N h1).2 he)
    exact int_of_two (fun x hx => (G.prim x hx).1) (G.prim h h1).1 (G.prim g hg).1 (two_of_edge he) (two_of_edge ((edge_iff G N hg).1 hb)) (by omega)

/-- What is known of a region that is not void. -/
structure RegF (hs L R : List Hp) : Prop where
  sort : sortH (frameL ++ hs) = L
  good : GoodL L
  edges : R = L.filter (edI L)
  two : ∀ h ∈ L, (edI L h = true ↔ Two h L)
  int : ∃ x y d, 0 < d ∧ stL L x y d

theorem prims_app {hs : List Hp} (h : ∀ x ∈ hs, okH x = true) : ∀ x ∈ frameL ++ hs, primH x := ok_prims (app_ok' h)

theorem frame_x {hs : List Hp} (h : ∀ x ∈ hs, okH x = true) : ∀ x y d, 0 < d → insL (sortH (frameL ++ hs)) x y d → x ≤ 1000 * d := fun x y d hd hi =>
  (in_frame (prims_app h) (fun x hx => List.mem_append_left _ hx) (Int.le_of_lt hd) hi).1

theorem reg_int {hs : List Hp} (h : ∀ x ∈ hs, okH x = true) {x y d : Int} (hd : 0 < d) (st : stL (sortH (frameL ++ hs)) x y d) : mkR hs ≠ [] ∧ RegF hs (sortH (frameL ++ hs)) (mkR hs) := by
  obtain ⟨G, e, hp⟩ := mk_parts h rfl
  obtain ⟨h3, hp'⟩ := made_of_int G (edI _) hp (frame_x h) hd st
  rw [if_neg (by omega)] at e
  refine ⟨fun hn => ?_, ⟨rfl, G, e, hp', _, _, _, hd, st⟩⟩
  rw [← e, hn] at h3
  simp at h3

theorem reg_some {hs : List Hp} (h : ∀ x ∈ hs, okH x = true) (hn : mkR hs ≠ []) : RegF hs (sortH (frameL ++ hs)) (mkR hs) := by
  obtain ⟨G, e, hp⟩ := mk_parts h rfl
  by_cases h3 : ((sortH (frameL ++ hs)).filter (edI (sortH (frameL ++ hs)))).length < 3
  · rw [if_pos h3] at e; exact absurd e hn
  · obtain ⟨x, y, d, hd, st⟩ := int_of_made G _ hp h3
    exact (reg_int h hd st).2

theorem reg_sub {hs L R : List Hp} (F : RegF hs L R) : ∀ x ∈ R, x ∈ L := fun x hx => by
  rw [F.edges] at hx
  exact (List.mem_filter.1 hx).1

theorem reg_from {hs L R : List Hp} (F : RegF hs L R) : ∀ x ∈ R, x ∈ frameL ++ hs := fun x hx => by
  have := reg_sub F x hx
  rw [← F.sort] at this
  exact sortH_mem this

theorem reg_ins {hs L R : List Hp} (F : RegF hs L R) {x y d : Int} (hd : 0 < d) (hi : insL R x y d) : insL L x y d := by
  obtain ⟨x0, y0, d0, hd0, st⟩ := F.int
  rw [F.edges] at hi
  exact edges_enough _ F.two hd0 st hd hi

/-- The points of the region lie in all half planes. -/
theorem reg_all {hs : List Hp} (h : ∀ x ∈ hs, okH x = true) (hn : mkR hs ≠ []) {x y d : Int} (hd : 0 < d) (hi : insL (mkR hs) x y d) : insL hs x y d := by
  have F := reg_some h hn
  have i := reg_ins F hd hi
  intro g hg
  exact cover_in F.good.prim (ok_prims h g hg) (sortH_covers (prims_app h) (List.mem_append_right _ hg)) (Int.le_of_lt hd) i
/-- A point within all half planes and the frame lies in the region. -/
theorem reg_in {hs : List Hp} (h : ∀ x ∈ hs, okH x = true) {x y d : Int} (hi : insL hs x y d) (hf : insL frameL x y d) : insL (mkR hs) x y d := by
  intro g hg
  have hm : g ∈ frameL ++ hs := by
    have e : mkR hs ≠ [] := fun e => by rw [e] at hg; simp at hg
    exact reg_from (reg_some h e) g hg
  rcases List.mem_append.1 hm with q | q
  · exact hf g q
  · exact hi g q
/-- With a point strictly within all of them the region is not void. -/
theorem reg_st {hs : List Hp} (h : ∀ x ∈ hs, okH x = true) {x y d : Int} (hd : 0 < d) (hi : stL hs x y d) (hf : stL frameL x y d) : mkR hs ≠ [] :=
  (reg_int h hd (fun g hg => by
    rcases List.mem_append.1 (sortH_mem hg) with q | q
    · exact hf g q
    · exact hi g q)).1

/-- A region is made of its own half planes. -/
theorem reg_idem {hs : List Hp} (h : ∀ x ∈ hs, okH x = true) (hn : mkR hs ≠ []) : (∀ x ∈ mkR hs, okH x = true) ∧ mkR (mkR hs) = mkR hs := by
  have F := reg_some h hn
  generalize hL : sortH (frameL ++ hs) = L at F
  generalize hR : mkR hs = R at F
  have hk : ∀ x ∈ R, okH x = true := fun x hx => app_ok' h x (reg_from F x hx)
  refine ⟨hk, ?_⟩
  have hcov : ∀ e ∈ frameL, Covers L e := fun e he => by rw [← hL]; exact sortH_covers (prims_app h) (List.mem_append_left _ he)
  obtain ⟨x0, y0, d0, hd0, st⟩ := F.int
  have st' : stL (sortH (frameL ++ R)) x0 y0 d0 := fun g hg => by
    rcases List.mem_append.1 (sortH_mem hg) with q | q
    · exact cover_str F.good.prim (frame_prim g q) (hcov g q) hd0 st
    · exact st g (reg_sub F g q)
  have F' := (reg_int hk hd0 st').2
  generalize hL' : sortH (frameL ++ R) = L' at F'
  have same : ∀ x y d, 0 < d → (insL L' x y d ↔ insL L x y d) := fun x y d hd => by
    constructor
    · intro hi
      refine reg_ins F hd (fun g hg => ?_)
      refine cover_in F'.good.prim (ok_prims hk g hg) ?_ (Int.le_of_lt hd) hi
      rw [← hL']
      exact sortH_covers (prims_app hk) (List.mem_append_right _ hg)
    · intro hi g hg
      rw [← hL'] at hg
      rcases List.mem_append.1 (sortH_mem hg) with q | q
      · exact cover_in F.good.prim (frame_prim g q) (hcov g q) (Int.le_of_lt hd) hi
      · exact hi g (reg_sub F g q)
  have two : ∀ g, Two g L' ↔ Two g L := fun g => by
    unfold Two
    constructor
    · rintro ⟨x, y, d, x', y', d', p, o, ⟨i, i'⟩, ne⟩
      exact ⟨x, y, d, x', y', d', p, o, ⟨(same _ _ _ p.1).1 i, (same _ _ _ p.2).1 i'⟩, ne⟩
    · rintro ⟨x, y, d, x', y', d', p, o, ⟨i, i'⟩, ne⟩
      exact ⟨x, y, d, x', y', d', p, o, ⟨(same _ _ _ p.1).2 i, (same _ _ _ p.2).2 i'⟩, ne⟩
  rw [F'.edges, F.edges]
  refine sorted_ext _ _ (List.Pairwise.filter _ F'.good.sorted) (List.Pairwise.filter _ F.good.sorted) (fun k => ?_)
  rw [List.mem_filter, List.mem_filter]
  constructor
  · rintro ⟨h1, h2⟩
    have t := (two k).1 ((F'.two k h1).1 h2)
    have hkL : k ∈ L := by
      have h1' := h1
      rw [← hL'] at h1'
      rcases List.mem_append.1 (sortH_mem h1') with q | q
      · obtain ⟨x, y, d, x', y', d', ⟨p, _⟩, ⟨o, _⟩, ⟨i, _⟩, _⟩ := t
        exact cover_tie F.good.prim (frame_prim k q) (hcov k q) p o i
      · exact reg_sub F k q
    exact ⟨hkL, (F.two k hkL).2 t⟩
  · rintro ⟨h1, h2⟩
    have t := (two k).2 ((F.two k h1).1 h2)
    have hkR : k ∈ R := by rw [F.edges]; exact List.mem_filter.2 ⟨h1, h2⟩
    have hkL : k ∈ L' := by
      obtain ⟨x, y, d, x', y', d', ⟨p, _⟩, ⟨o, _⟩, ⟨i, _⟩, _⟩ := t
      refine cover_tie F'.good.prim (ok_prims hk k hkR) ?_ p o i
      rw [← hL']
      exact sortH_covers (prims_app hk) (List.mem_append_right _ hkR)
    exact ⟨hkL, (F'.two k hkL).2 t⟩

def allV (hs : List Hp) (x y : Int) : Bool := hs.all fun h => holdsV h.1 h.2.1 h.2.2 x y 1

def strV (hs : List Hp) (x y : Int) : Bool := hs.all fun h => decide (sideV h.1 h.2.1 h.2.2 x y 1 = -1)

theorem whole_ok {x y : Int} (hx : -40 ≤ x ∧ x ≤ 39) (hy : -40 ≤ y ∧ y ≤ 39) : spotOkV x y 1 = true := by
  unfold spotOkV inB gcdL
  simp
  omega

theorem rfG_five {hs : List Hp} (hl : hs.length ≤ 9) (hok : ∀ h ∈ hs, okH h = true) : rfR hs = mkR hs ∧ rfB hs = true := by
  have h1 := mkR_len (hs := hs)
  refine rf_fit ?_ (by omega)
  unfold rfG
  rw [List.all_eq_true.2 hok, decide_eq_true (by omega)]; rfl

structure LawF (hs R : List Hp) : Prop where
  from1 : rfR hs = R
  fine1 : rfB hs = true
  len : R.length ≤ 9
  ok : regOkB R = true
  fine2 : rfB R = true
  same : R.length ≠ 0 → rfR R = R

theorem law_made {hs : List Hp} (hl : hs.length ≤ 5) (hok : ∀ h ∈ hs, okH h = true) : LawF hs (mkR hs) := by
  obtain ⟨a, b⟩ := rfG_five (by omega) hok
  have hlen := mkR_len (hs := hs)
  by_cases hn : mkR hs = []
  · rw [hn] at a ⊢
    exact ⟨a, b, by simp, by decide, (rfG_five (by simp) (by simp)).2, fun h => absurd rfl h⟩
  · obtain ⟨hk, he⟩ := reg_idem hok hn
    obtain ⟨c, d⟩ := rfG_five (hs := mkR hs) (by omega) hk
    have c' := c.trans he
    exact ⟨a, b, by omega, by unfold regOkB; rw [d, c']; simp, d, fun _ => c'⟩

theorem side_in {a b c x y : Int} (h1 : okH (a, b, c) = true) (h2 : spotOkV x y 1 = true) : (holdsV a b c x y 1 = true ↔ inH (a, b, c) x y 1) ∧ (sideIn x y 1 (a, b, c) = true ↔ inH (a, b, c) x y 1) ∧ (sideV a b c x y 1 = -1 ↔ strH (a, b, c) x y 1) := by
  unfold okH at h1
  simp only at h1
  have e : sideV a b c x y 1 = sgnV (a * x + b * y - c * 1) := by unfold sideV sideE; rw [h1, h2]; rfl
  refine ⟨?_, ?_, ?_⟩
  · unfold holdsV inH
    rw [h1, h2]
    simp only [Bool.true_and, decide_eq_true_eq]
    omega
  · unfold sideIn inH
    simp only [decide_eq_true_eq]
    rw [e]
    unfold sgnV
    split
    · omega
    · split <;> omega
  · unfold strH
    simp only
    rw [e]
    unfold sgnV
    split
    · omega
    · split <;> omega

theorem frame_str {x y : Int} (hx : -40 ≤ x ∧ x ≤ 39) (hy : -40 ≤ y ∧ y ≤ 39) : stL frameL x y 1 := by
  intro g hg
  simp only [frameL, List.mem_cons, List.not_mem_nil, or_false] at hg
  rcases hg with rfl | rfl | rfl | rfl <;> (unfold strH; simp only; omega)

theorem has_iff {R : List Hp} (hR : regOkB R = true) (hk : ∀ h ∈ R, okH h = true) {x y : Int} (h2 : spotOkV x y 1 = true) : hasV R x y 1 = true ↔ (R ≠ [] ∧ insL R x y 1) := by
  unfold hasV holdsR
  rw [hR, h2]
  simp only [Bool.true_and, Bool.and_eq_true, decide_eq_true_eq, Bool.not_eq_true', decide_eq_false_iff_not, List.all_eq_true]
  constructor
  · rintro ⟨a, b, c⟩
    refine ⟨fun e => a (by rw [e]; rfl), fun g hg => ?_⟩
    exact (side_in (a := g.1) (b := g.2.1) (c := g.2.2) (hk g hg) h2).2.1.1 (b g hg)
  · rintro ⟨a, b⟩
    have hl : R.length ≠ 0 := fun e => a (List.eq_nil_of_length_eq_zero e)
    exact ⟨hl, fun g hg => (side_in (a := g.1) (b := g.2.1) (c := g.2.2) (hk g hg) h2).2.1.2 (b g hg), hl⟩

theorem law_spot {hs : List Hp} (hl : hs.length ≤ 5) (hok : ∀ h ∈ hs, okH h = true) {x y : Int} (hx : -40 ≤ x ∧ x ≤ 39) (hy : -40 ≤ y ∧ y ≤ 39) :
    (hasV (mkR hs) x y 1 = true → allV hs x y = true ∧ (mkR hs).length ≠ 0) ∧ (hasV (mkR hs) x y 1 = false → strV hs x y = false ∧ (allV hs x y = true → (mkR hs).length = 0)) := by
  have h2 := whole_ok hx hy
  have F := law_made hl hok
  have hk := regOk_ok F.ok
  have hi := has_iff F.ok hk h2
  have hall : allV hs x y = true ↔ insL hs x y 1 := by
    unfold allV insL
    rw [List.all_eq_true]
    exact ⟨fun h g hg => (side_in (a := g.1) (b := g.2.1) (c := g.2.2) (hok g hg) h2).1.1 (h g hg), fun h g hg => (side_in (a := g.1) (b := g.2.1) (c := g.2.2) (hok g hg) h2).1.2 (h g hg)⟩
  have hstr : strV hs x y = true ↔ stL hs x y 1 := by
    unfold strV stL
    rw [List.all_eq_true]
    simp only [decide_eq_true_eq]
    exact ⟨fun h g hg => (side_in (a := g.1) (b := g.2.1) (c := g.2.2) (hok g hg) h2).2.2.1 (h g hg), fun h g hg => (side_in (a := g.1) (b := g.2.1) (c := g.2.2) (hok g hg) h2).2.2.2 (h g hg)⟩
  have hf : insL frameL x y 1 := fun g hg => st_in (frame_str hx hy g hg)
  constructor
  · intro h
    obtain ⟨a, b⟩ := hi.1 h
    exact ⟨hall.2 (reg_all hok a (by omega) b), fun e => a (List.eq_nil_of_length_eq_zero e)⟩
  · intro h
    constructor
    · cases hs' : strV hs x y
      · rfl
      · exfalso
        have st := hstr.1 hs'
        have := hi.2 ⟨reg_st hok (by omega) st (frame_str hx hy), reg_in hok (fun g hg => st_in (st g hg)) hf⟩
        rw [h] at this; cases this
    · intro ha
      by_cases hn : (mkR hs).length = 0
      · exact hn
      · exfalso
        have := hi.2 ⟨fun e => hn (by rw [e]; rfl), reg_in hok (hall.1 ha) hf⟩
        rw [h] at this; cases this

theorem bytes_at {w w1 : World} {A : Option Addr} {n : Nat} (h : BytesAt w w.heap.size A n) (hb : Below w.heap.size w w1) : BytesAt w1 w1.heap.size A n := (h.below hb).mono hb.size

theorem iHoldsAt_is {a b c x y d : Int} {v : Bool} (h : holdsV a b c x y d = v) (w : World) (hx1 : -9223372036854775808 ≤ x) (hx2 : x ≤ 9223372036854775807) (hy1 : -9223372036854775808 ≤ y) (hy2 : y ≤ 9223372036854775807) :
    Calls Try.prog 41 #[.agg #[.int .i64 a, .int .i64 b, .int .i64 c], .agg #[.int .i64 x, .int .i64 y, .int .i64 d]] w fun e w' => e = .returned (.bool v) ∧ Below w.heap.size w w' := by
  subst h; exact iHoldsAt_any a b c x y d w hx1 hx2 hy1 hy2

theorem iHasSpot_is {v : Bool} {hs : List Hp} {x y d : Int} (hv : hasV hs x y d = v) (A : Option Addr) (n c : Nat) (w : World) (hn : n = hs.length) (hA : HsAt w w.heap.size A hs) (hm : n ≤ 4611686018427387904)
    (hx1 : -9223372036854775808 ≤ x) (hx2 : x ≤ 9223372036854775807) (hy1 : -9223372036854775808 ≤ y) (hy2 : y ≤ 9223372036854775807) :
    Calls Try.prog 36 #[.agg #[.slice A n c], .agg #[.int .i64 x, .int .i64 y, .int .i64 d]] w fun e w' => e = .returned (.bool v) ∧ Below w.heap.size w w' := by
  subst hv; exact iHasSpot_any A n c hs x y d w hn hA hm hx1 hx2 hy1 hy2

theorem allV_step {hs : List Hp} {x y : Int} {k : Nat} (hk : k < hs.length) : allV (hs.take (k + 1)) x y = (allV (hs.take k) x y && holdsV hs[k].1 hs[k].2.1 hs[k].2.2 x y 1) := by
  unfold allV
  rw [List.take_succ_eq_append_getElem hk, List.all_append]; simp

theorem strV_step {hs : List Hp} {x y : Int} {k : Nat} (hk : k < hs.length) : strV (hs.take (k + 1)) x y = (strV (hs.take k) x y && decide (sideV hs[k].1 hs[k].2.1 hs[k].2.2 x y 1 = -1)) := by
  unfold strV
  rw [List.take_succ_eq_append_getElem hk, List.all_append]; simp

set_option maxHeartbeats 1000000 in
set_option maxRecDepth 100000 in
theorem regions_walk (A : Option Addr) (n0 c0 : Nat) (w : World) (hn : n0 ≤ maxLen) (hB : BytesAt w w.heap.size A n0) :
    Calls Try.prog 11 #[.slice A n0 c0] w fun e w' => e = .returned (.bool true) ∧ Below w.heap.size w w' := by
  unfold maxLen at hn
  have HB := Lib.hid hB; clear hB
  by_cases hz : 1048576 < n0
  · go_enter Try.func11, Try.ntmps11
    go_wp2_with fail
    go_ret
    exact ⟨rfl, Below.refl _ _⟩
  · have hn6 : n0 ≤ 1048576 := by omega
    go_enter Try.func11, Try.ntmps11
    go_wp2_with fail
    go_at_call 39; refine (MakeHalves_any A n0 c0 w hn6 HB.out).mono ?_; rintro e w1 ⟨hs, Av, cv, hl5, hok, rfl, hO1, hS1_w1⟩
    have hz1_w1 := hS1_w1.size
    have F := Lib.hid (law_made hl5 hok)
    have LS := Lib.hid (fun (x y : Int) hx hy => law_spot hl5 hok (x := x) (y := y) hx hy)
    obtain ⟨R, hR⟩ : ∃ R, mkR hs = R := ⟨_, rfl⟩
    rw [hR] at F LS
    have HK := Lib.hid hok
    have HH1 := Lib.hid hO1.of_len
    have hR9 := F.out.len
    clear hR hok hO1
    go_wp2_with fail
    go_at_call 31; with_reducible refine (iRegionFrom_to F.out.from1 F.out.fine1 rfl HH1.out (by omega)).mono ?_
    rintro e w2 ⟨AR, cR, rfl, hO2, hb1⟩
    have HH2 := Lib.hid (HH1.out.step hb1)
    have hS1_w2 : Below w.heap.size w w2 := S_below hb1 (by repeat (first | exact Below.refl _ _ | assumption | refine below_drewN ?_ _ | refine Below.drew ?_ | refine Below.alloc ?_ (by first | omega | (simp <;> omega)) _ | refine Below.setCell ?_ (by first | omega | (simp <;> omega)) _)) (by first | omega | (simp <;> omega))
    have hz1_w2 : w.heap.size ≤ w2.heap.size := S_size hb1 (by first | omega | (simp <;> omega))
    clear hb1
    have RR2 := Lib.hid hO2.of_len
    clear hO2 HH1
    go_wp2_with fail
    go_at_call 33; with_reducible refine (iRegionOk_lit _ _ _ R _ rfl (RR2.out.step ((Below.refl _ _).alloc (Nat.le_refl _) _)) (by omega) F.out.ok).mono ?_
    rintro e w3 ⟨rfl, hb1⟩
    have HH3 := Lib.hid ((HH2.out.step ((Below.refl _ _).alloc (Nat.le_refl _) _)).step hb1)
    have RR3 := Lib.hid ((RR2.out.step ((Below.refl _ _).alloc (Nat.le_refl _) _)).step hb1)
    have cc_w30 := cell_keep (p := ⟨w2.heap.size, 0, none⟩) (v := .slice AR R.length cR) hb1 (by first | assumption | (go_keep; done) | (go_simp; done) | (simp; done)) (by first | omega | (simp <;> omega))
    have hS1_w3 : Below w.heap.size w w3 := S_below hb1 (by repeat (first | exact Below.refl _ _ | assumption | refine below_drewN ?_ _ | refine Below.drew ?_ | refine Below.alloc ?_ (by first | omega | (simp <;> omega)) _ | refine Below.setCell ?_ (by first | omega | (simp <;> omega)) _)) (by first | omega | (simp <;> omega))
    have hz1_w3 : w.heap.size ≤ w3.heap.size := S_size hb1 (by first | omega | (simp <;> omega))
    have hqb_w30 : w2.heap.size < w3.heap.size := S_lt hb1 (by first | omega | (simp <;> omega))
    clear hb1
    have HB3 := Lib.hid (bytes_at HB.out hS1_w3)
    clear HH2 RR2 HB
    go_wp2_with fail
    go_loopw [6] (fun i wr => ∃ k : Nat, k ≤ 12 ∧ i = .int .i64 k ∧ Below w3.heap.size w3 wr) (fun i _ => 12 - (intOf i).toNat)
    case atStart => exact ⟨0, by omega, rfl, Below.refl _ _⟩
    case round =>
      obtain ⟨k, hk, rfl, hb3⟩ := hrel
      have hsz3 := hb3.size
      have cRr := cell_keep hb3 cc_w30 hqb_w30
      have hbw : Below w.heap.size w wr := hS1_w3.trans (hb3.mono (by omega))
      have HHr := Lib.hid (HH3.out.step hb3)
      have RRr := Lib.hid (RR3.out.step hb3)
      have hzr : w2.heap.size < wr.heap.size := by omega
      by_cases hlt : k < 12
      · have HBr := Lib.hid (bytes_at HB3.out hb3)
        rename World => wo
        go_wp2_with fail
        go_at_call 40; with_reducible refine (MakeWhole_any (60 + 4 * k) A n0 c0 _ hn6 HBr.out (by omega) (by omega)).mono ?_
        rintro e w4 ⟨x, y, hx1, hx2, hy1, hy2, rfl, hb1⟩
        have HH4 := Lib.hid (HHr.out.step hb1)
        have RR4 := Lib.hid (RRr.out.step hb1)
        have h34 : Below w3.heap.size w3 w4 := S_below hb1 hb3 hsz3
        have cc_w40 := cell_keep (p := ⟨w2.heap.size, 0, none⟩) (v := .slice AR R.length cR) hb1 (by first | assumption | (go_keep; done) | (go_simp; done) | (simp; done)) (by first | omega | (simp <;> omega))
        have hS1_w4 : Below w.heap.size w w4 := S_below hb1 (by repeat (first | exact Below.refl _ _ | assumption | refine below_drewN ?_ _ | refine Below.drew ?_ | refine Below.alloc ?_ (by first | omega | (simp <;> omega)) _ | refine Below.setCell ?_ (by first | omega | (simp <;> omega)) _)) (by first | omega | (simp <;> omega))
        have hz1_w4 : w.heap.size ≤ w4.heap.size := S_size hb1 (by first | omega | (simp <;> omega))
        have hqb_w40 : w2.heap.size < w4.heap.size := S_lt hb1 (by first | omega | (simp <;> omega))
        clear hb1
        have LF := Lib.hid (LS.out x y ⟨hx1, hx2⟩ ⟨hy1, hy2⟩)
        clear HHr RRr HBr
        go_wp2_with fail
        generalize hW5 : w4.alloc (.cells #[.int .i64 x, .int .i64 y, .int .i64 1] 49) = w5
        have b5 : Below w4.heap.size w4 w5 := by rw [← hW5]; exact (Below.refl _ _).alloc (Nat.le_refl _) _
        have z50 : w5.cell? ⟨w4.heap.size, 0, none⟩ = some (.int .i64 x) := by rw [← hW5]; exact cell_new_at w4 _ _ 0 rfl
        have z51 : w5.cell? ⟨w4.heap.size, 1, none⟩ = some (.int .i64 y) := by rw [← hW5]; exact cell_new_at w4 _ _ 1 rfl
        have z52 : w5.cell? ⟨w4.heap.size, 2, none⟩ = some (.int .i64 1) := by rw [← hW5]; exact cell_new_at w4 _ _ 2 rfl
        have y54 : w4.heap.size < w5.heap.size := by rw [← hW5]; exact new_lt _ _
        have z5R := cell_keep b5 cc_w40 hqb_w40
        have HH5 := Lib.hid (HH4.out.step b5)
        have RR5 := Lib.hid (RR4.out.step b5)
        have h35 : Below w3.heap.size w3 w5 := S_below b5 h34 h34.size
        have hS1_w5 : Below w.heap.size w w5 := S_below b5 hS1_w4 hS1_w4.size
        have hqb_w50 : w2.heap.size < w5.heap.size := by omega
        have hz5 := hS1_w5.size
        clear hW5 b5 HH4 RR4 cc_w40 hS1_w4 h34 cRr hbw hb3
        go_loopw [8, 9, 42] (fun a s i wr => ∃ (j : Nat) (av sv : Bool), j ≤ hs.length ∧ i = .int .i64 j ∧ a = .bool av ∧ s = .bool sv ∧ RowKit.Hid (av = allV (hs.take j) x y) ∧ RowKit.Hid (sv = strV (hs.take j) x y) ∧ Below w5.heap.size w5 wr) (fun _ _ i _ => hs.length - (intOf i).toNat)
        case atStart => exact ⟨0, true, true, by omega, rfl, rfl, rfl, (rfl : true = allV [] x y), (rfl : true = strV [] x y), Below.refl _ _⟩
        case round =>
          obtain ⟨j, av, sv, hj, rfl, rfl, rfl, HA, HS, hb5⟩ := hrel
          have hsz5 := hb5.size
          have p0 := cell_keep hb5 z50 y54
          have p1 := cell_keep hb5 z51 y54
          have p2 := cell_keep hb5 z52 y54
          have pR := cell_keep hb5 z5R hqb_w50
          have hbr : Below w.heap.size w wr := S_below hb5 hS1_w5 hz5
          have y4r : w4.heap.size < wr.heap.size := by omega
          have y2r : w2.heap.size < wr.heap.size := by omega
          by_cases hltj : j < hs.length
          · obtain ⟨bL, oL, rfl, hlb, c0, c1, c2⟩ := (HH5.out.below hb5).at_ hltj
            have hlb' : bL < wr.heap.size := by omega
            have ha := allV_step (x := x) (y := y) hltj
            have hs' := strV_step (x := x) (y := y) hltj
            have hkh := HK.out _ (List.getElem_mem hltj)
            generalize hs[j] = h at *
            obtain ⟨h0, h1, h2⟩ := h
            simp only at c0 c1 c2 ha hs'
            rw [← HA.out] at ha
            rw [← HS.out] at hs'
            obtain ⟨v, hv⟩ : ∃ v, holdsV h0 h1 h2 x y 1 = v := ⟨_, rfl⟩
            obtain ⟨n, hn'⟩ : ∃ n, sideV h0 h1 h2 x y 1 = n := ⟨_, rfl⟩
            rw [hv] at ha
            rw [hn'] at hs'
            have HV := Lib.hid hv; clear hv
            have HN := Lib.hid hn'; clear hn'
            clear HA HS hkh
            cases av
            · have HA := Lib.hid (show false = allV (hs.take (j + 1)) x y by rw [ha]; rfl)
              clear ha
              cases sv
              · have HS := Lib.hid (show false = strV (hs.take (j + 1)) x y by rw [hs']; rfl)
                clear hs'
                go_wp2_with fail
                go_roundw
                case rel => exact ⟨j + 1, false, false, by omega, by go_num, rfl, rfl, HA.out, HS.out, (by repeat (first | exact Below.refl _ _ | assumption | refine below_drewN ?_ _ | refine Below.drew ?_ | refine Below.alloc ?_ (by first | omega | (simp <;> omega)) _ | refine Below.setCell ?_ (by first | omega | (simp <;> omega)) _))⟩
                case measure => simp [intOf]; omega
              · by_cases hm : n = -1
                · subst hm
                  have HS := Lib.hid (show true = strV (hs.take (j + 1)) x y by rw [hs']; rfl)
                  clear hs'
                  go_wp2_with fail
                  go_at_call 42; with_reducible refine (sideOf_is HN.out _ (by omega) (by omega) (by omega) (by omega)).mono ?_
                  rintro e w7 ⟨rfl, hb1⟩
                  have hb57 : Below w5.heap.size w5 w7 := S_below hb1 (hb5.alloc hsz5 _) (by simp; omega)
                  have cc_w70 := cell_keep (p := ⟨w2.heap.size, 0, none⟩) (v := .slice AR R.length cR) hb1 (by first | assumption | (go_keep; done) | (go_simp; done) | (simp; done)) (by first | omega | (simp <;> omega))
                  have cc_w71 := cell_keep (p := ⟨w4.heap.size, 0, none⟩) (v := .int .i64 x) hb1 (by first | assumption | (go_keep; done) | (go_simp; done) | (simp; done)) (by first | omega | (simp <;> omega))
                  have cc_w72 := cell_keep (p := ⟨w4.heap.size, 1, none⟩) (v := .int .i64 y) hb1 (by first | assumption | (go_keep; done) | (go_simp; done) | (simp; done)) (by first | omega | (simp <;> omega))
                  have cc_w73 := cell_keep (p := ⟨w4.heap.size, 2, none⟩) (v := .int .i64 1) hb1 (by first | assumption | (go_keep; done) | (go_simp; done) | (simp; done)) (by first | omega | (simp <;> omega))
                  have cc_w74 := cell_keep (p := ⟨wr.heap.size, 0, none⟩) (v := .int .i64 h0) hb1 (by first | assumption | (go_keep; done) | (go_simp; done) | (simp; done)) (by first | omega | (simp <;> omega))
                  have cc_w75 := cell_keep (p := ⟨wr.heap.size, 1, none⟩) (v := .int .i64 h1) hb1 (by first | assumption | (go_keep; done) | (go_simp; done) | (simp; done)) (by first | omega | (simp <;> omega))
                  have cc_w76 := cell_keep (p := ⟨wr.heap.size, 2, none⟩) (v := .int .i64 h2) hb1 (by first | assumption | (go_keep; done) | (go_simp; done) | (simp; done)) (by first | omega | (simp <;> omega))
                  have hS1_w7 : Below w.heap.size w w7 := S_below hb1 (by repeat (first | exact Below.refl _ _ | assumption | refine below_drewN ?_ _ | refine Below.drew ?_ | refine Below.alloc ?_ (by first | omega | (simp <;> omega)) _ | refine Below.setCell ?_ (by first | omega | (simp <;> omega)) _)) (by first | omega | (simp <;> omega))
                  have hz1_w7 : w.heap.size ≤ w7.heap.size := S_size hb1 (by first | omega | (simp <;> omega))
                  have hqb_w70 : w2.heap.size < w7.heap.size := S_lt hb1 (by first | omega | (simp <;> omega))
                  have hqb_w71 : w4.heap.size < w7.heap.size := S_lt hb1 (by first | omega | (simp <;> omega))
                  have hqb_w72 : wr.heap.size < w7.heap.size := S_lt hb1 (by first | omega | (simp <;> omega))
                  clear hb1
                  go_wp2_with fail
                  go_roundw
                  case rel => exact ⟨j + 1, false, true, by omega, by go_num, rfl, rfl, HA.out, HS.out, hb57⟩
                  case measure => simp [intOf]; omega
                · have HS := Lib.hid (show false = strV (hs.take (j + 1)) x y by rw [hs', decide_eq_false hm]; rfl)
                  have hm' : (n == -1) = false := by simpa using hm
                  clear hs'
                  go_wp2_with fail
                  go_at_call 42; with_reducible refine (sideOf_is HN.out _ (by omega) (by omega) (by omega) (by omega)).mono ?_
                  rintro e w7 ⟨rfl, hb1⟩
                  have hb57 : Below w5.heap.size w5 w7 := S_below hb1 (hb5.alloc hsz5 _) (by simp; omega)
                  have cc_w70 := cell_keep (p := ⟨w2.heap.size, 0, none⟩) (v := .slice AR R.length cR) hb1 (by first | assumption | (go_keep; done) | (go_simp; done) | (simp; done)) (by first | omega | (simp <;> omega))
                  have cc_w71 := cell_keep (p := ⟨w4.heap.size, 0, none⟩) (v := .int .i64 x) hb1 (by first | assumption | (go_keep; done) | (go_simp; done) | (simp; done)) (by first | omega | (simp <;> omega))
                  have cc_w72 := cell_keep (p := ⟨w4.heap.size, 1, none⟩) (v := .int .i64 y) hb1 (by first | assumption | (go_keep; done) | (go_simp; done) | (simp; done)) (by first | omega | (simp <;> omega))
                  have cc_w73 := cell_keep (p := ⟨w4.heap.size, 2, none⟩) (v := .int .i64 1) hb1 (by first | assumption | (go_keep; done) | (go_simp; done) | (simp; done)) (by first | omega | (simp <;> omega))
                  have cc_w74 := cell_keep (p := ⟨wr.heap.size, 0, none⟩) (v := .int .i64 h0) hb1 (by first | assumption | (go_keep; done) | (go_simp; done) | (simp; done)) (by first | omega | (simp <;> omega))
                  have cc_w75 := cell_keep (p := ⟨wr.heap.size, 1, none⟩) (v := .int .i64 h1) hb1 (by first | assumption | (go_keep; done) | (go_simp; done) | (simp; done)) (by first | omega | (simp <;> omega))
                  have cc_w76 := cell_keep (p := ⟨wr.heap.size, 2, none⟩) (v := .int .i64 h2) hb1 (by first | assumption | (go_keep; done) | (go_simp; done) | (simp; done)) (by first | omega | (simp <;> omega))
                  have hS1_w7 : Below w.heap.size w w7 := S_below hb1 (by repeat (first | exact Below.refl _ _ | assumption | refine below_drewN ?_ _ | refine Below.drew ?_ | refine Below.alloc ?_ (by first | omega | (simp <;> omega)) _ | refine Below.setCell ?_ (by first | omega | (simp <;> omega)) _)) (by first | omega | (simp <;> omega))
                  have hz1_w7 : w.heap.size ≤ w7.heap.size := S_size hb1 (by first | omega | (simp <;> omega))
                  have hqb_w70 : w2.heap.size < w7.heap.size := S_lt hb1 (by first | omega | (simp <;> omega))
                  have hqb_w71 : w4.heap.size < w7.heap.size := S_lt hb1 (by first | omega | (simp <;> omega))
                  have hqb_w72 : wr.heap.size < w7.heap.size := S_lt hb1 (by first | omega | (simp <;> omega))
                  clear hb1
                  go_wp2_with fail
                  go_roundw
                  case rel => exact ⟨j + 1, false, false, by omega, by go_num, rfl, rfl, HA.out, HS.out, hb57⟩
                  case measure => simp [intOf]; omega
            · have HA := Lib.hid (show v = allV (hs.take (j + 1)) x y by rw [ha]; rfl)
              clear ha
              cases sv
              · have HS := Lib.hid (show false = strV (hs.take (j + 1)) x y by rw [hs']; rfl)
                clear hs'
                go_wp2_with fail
                go_at_call 41; with_reducible refine (iHoldsAt_is HV.out _ (by omega) (by omega) (by omega) (by omega)).mono ?_
                rintro e w6 ⟨rfl, hb1⟩
                have hb56 : Below w5.heap.size w5 w6 := S_below hb1 (hb5.alloc hsz5 _) (by simp; omega)
                have cc_w60 := cell_keep (p := ⟨w2.heap.size, 0, none⟩) (v := .slice AR R.length cR) hb1 (by first | assumption | (go_keep; done) | (go_simp; done) | (simp; done)) (by first | omega | (simp <;> omega))
                have cc_w61 := cell_keep (p := ⟨w4.heap.size, 0, none⟩) (v := .int .i64 x) hb1 (by first | assumption | (go_keep; done) | (go_simp; done) | (simp; done)) (by first | omega | (simp <;> omega))
                have cc_w62 := cell_keep (p := ⟨w4.heap.size, 1, none⟩) (v := .int .i64 y) hb1 (by first | assumption | (go_keep; done) | (go_simp; done) | (simp; done)) (by first | omega | (simp <;> omega))
                have cc_w63 := cell_keep (p := ⟨w4.heap.size, 2, none⟩) (v := .int .i64 1) hb1 (by first | assumption | (go_keep; done) | (go_simp; done) | (simp; done)) (by first | omega | (simp <;> omega))
                have cc_w64 := cell_keep (p := ⟨wr.heap.size, 0, none⟩) (v := .int .i64 h0) hb1 (by first | assumption | (go_keep; done) | (go_simp; done) | (simp; done)) (by first | omega | (simp <;> omega))
                have cc_w65 := cell_keep (p := ⟨wr.heap.size, 1, none⟩) (v := .int .i64 h1) hb1 (by first | assumption | (go_keep; done) | (go_simp; done) | (simp; done)) (by first | omega | (simp <;> omega))
                have cc_w66 := cell_keep (p := ⟨wr.heap.size, 2, none⟩) (v := .int .i64 h2) hb1 (by first | assumption | (go_keep; done) | (go_simp; done) | (simp; done)) (by first | omega | (simp <;> omega))
                have hS1_w6 : Below w.heap.size w w6 := S_below hb1 (by repeat (first | exact Below.refl _ _ | assumption | refine below_drewN ?_ _ | refine Below.drew ?_ | refine Below.alloc ?_ (by first | omega | (simp <;> omega)) _ | refine Below.setCell ?_ (by first | omega | (simp <;> omega)) _)) (by first | omega | (simp <;> omega))
                have hz1_w6 : w.heap.size ≤ w6.heap.size := S_size hb1 (by first | omega | (simp <;> omega))
                have hqb_w60 : w2.heap.size < w6.heap.size := S_lt hb1 (by first | omega | (simp <;> omega))
                have hqb_w61 : w4.heap.size < w6.heap.size := S_lt hb1 (by first | omega | (simp <;> omega))
                have hqb_w62 : wr.heap.size < w6.heap.size := S_lt hb1 (by first | omega | (simp <;> omega))
                clear hb1
                go_wp2_with fail
                go_roundw
                case rel => exact ⟨j + 1, v, false, by omega, by go_num, rfl, rfl, HA.out, HS.out, hb56⟩
                case measure => simp [intOf]; omega
              · by_cases hm : n = -1
                · subst hm
                  have HS := Lib.hid (show true = strV (hs.take (j + 1)) x y by rw [hs']; rfl)
                  clear hs'
                  go_wp2_with fail
                  go_at_call 41; with_reducible refine (iHoldsAt_is HV.out _ (by omega) (by omega) (by omega) (by omega)).mono ?_
                  rintro e w6 ⟨rfl, hb1⟩
                  have hb56 : Below w5.heap.size w5 w6 := S_below hb1 (hb5.alloc hsz5 _) (by simp; omega)
                  have cc_w60 := cell_keep (p := ⟨w2.heap.size, 0, none⟩) (v := .slice AR R.length cR) hb1 (by first | assumption | (go_keep; done) | (go_simp; done) | (simp; done)) (by first | omega | (simp <;> omega))
                  have cc_w61 := cell_keep (p := ⟨w4.heap.size, 0, none⟩) (v := .int .i64 x) hb1 (by first | assumption | (go_keep; done) | (go_simp; done) | (simp; done)) (by first | omega | (simp <;> omega))
                  have cc_w62 := cell_keep (p := ⟨w4.heap.size, 1, none⟩) (v := .int .i64 y) hb1 (by first | assumption | (go_keep; done) | (go_simp; done) | (simp; done)) (by first | omega | (simp <;> omega))
                  have cc_w63 := cell_keep (p := ⟨w4.heap.size, 2, none⟩) (v := .int .i64 1) hb1 (by first | assumption | (go_keep; done) | (go_simp; done) | (simp; done)) (by first | omega | (simp <;> omega))
                  have cc_w64 := cell_keep (p := ⟨wr.heap.size, 0, none⟩) (v := .int .i64 h0) hb1 (by first | assumption | (go_keep; done) | (go_simp; done) | (simp; done)) (by first | omega | (simp <;> omega))
                  have cc_w65 := cell_keep (p := ⟨wr.heap.size, 1, none⟩) (v := .int .i64 h1) hb1 (by first | assumption | (go_keep; done) | (go_simp; done) | (simp; done)) (by first | omega | (simp <;> omega))
                  have cc_w66 := cell_keep (p := ⟨wr.heap.size, 2, none⟩) (v := .int .i64 h2) hb1 (by first | assumption | (go_keep; done) | (go_simp; done) | (simp; done)) (by first | omega | (simp <;> omega))
                  have hS1_w6 : Below w.heap.size w w6 := S_below hb1 (by repeat (first | exact Below.refl _ _ | assumption | refine below_drewN ?_ _ | refine Below.drew ?_ | refine Below.alloc ?_ (by first | omega | (simp <;> omega)) _ | refine Below.setCell ?_ (by first | omega | (simp <;> omega)) _)) (by first | omega | (simp <;> omega))
                  have hz1_w6 : w.heap.size ≤ w6.heap.size := S_size hb1 (by first | omega | (simp <;> omega))
                  have hqb_w60 : w2.heap.size < w6.heap.size := S_lt hb1 (by first | omega | (simp <;> omega))
                  have hqb_w61 : w4.heap.size < w6.heap.size := S_lt hb1 (by first | omega | (simp <;> omega))
                  have hqb_w62 : wr.heap.size < w6.heap.size := S_lt hb1 (by first | omega | (simp <;> omega))
                  clear hb1
                  go_wp2_with fail
                  go_at_call 42; with_reducible refine (sideOf_is HN.out _ (by omega) (by omega) (by omega) (by omega)).mono ?_
                  rintro e w7 ⟨rfl, hb1⟩
                  have hb57 : Below w5.heap.size w5 w7 := S_below hb1 hb56 hb56.size
                  have cc_w70 := cell_keep (p := ⟨w2.heap.size, 0, none⟩) (v := .slice AR R.length cR) hb1 (by first | assumption | (go_keep; done) | (go_simp; done) | (simp; done)) (by first | omega | (simp <;> omega))
                  have cc_w71 := cell_keep (p := ⟨w4.heap.size, 0, none⟩) (v := .int .i64 x) hb1 (by first | assumption | (go_keep; done) | (go_simp; done) | (simp; done)) (by first | omega | (simp <;> omega))
                  have cc_w72 := cell_keep (p := ⟨w4.heap.size, 1, none⟩) (v := .int .i64 y) hb1 (by first | assumption | (go_keep; done) | (go_simp; done) | (simp; done)) (by first | omega | (simp <;> omega))
                  have cc_w73 := cell_keep (p := ⟨w4.heap.size, 2, none⟩) (v := .int .i64 1) hb1 (by first | assumption | (go_keep; done) | (go_simp; done) | (simp; done)) (by first | omega | (simp <;> omega))
                  have cc_w74 := cell_keep (p := ⟨wr.heap.size, 0, none⟩) (v := .int .i64 h0) hb1 (by first | assumption | (go_keep; done) | (go_simp; done) | (simp; done)) (by first | omega | (simp <;> omega))
                  have cc_w75 := cell_keep (p := ⟨wr.heap.size, 1, none⟩) (v := .int .i64 h1) hb1 (by first | assumption | (go_keep; done) | (go_simp; done) | (simp; done)) (by first | omega | (simp <;> omega))
                  have cc_w76 := cell_keep (p := ⟨wr.heap.size, 2, none⟩) (v := .int .i64 h2) hb1 (by first | assumption | (go_keep; done) | (go_simp; done) | (simp; done)) (by first | omega | (simp <;> omega))
                  have hS1_w7 : Below w.heap.size w w7 := S_below hb1 (by repeat (first | exact Below.refl _ _ | assumption | refine below_drewN ?_ _ | refine Below.drew ?_ | refine Below.alloc ?_ (by first | omega | (simp <;> omega)) _ | refine Below.setCell ?_ (by first | omega | (simp <;> omega)) _)) (by first | omega | (simp <;> omega))
                  have hz1_w7 : w.heap.size ≤ w7.heap.size := S_size hb1 (by first | omega | (simp <;> omega))
                  have hqb_w70 : w2.heap.size < w7.heap.size := S_lt hb1 (by first | omega | (simp <;> omega))
                  have hqb_w71 : w4.heap.size < w7.heap.size := S_lt hb1 (by first | omega | (simp <;> omega))
                  have hqb_w72 : wr.heap.size < w7.heap.size := S_lt hb1 (by first | omega | (simp <;> omega))
                  clear hb1
                  go_wp2_with fail
                  go_roundw
                  case rel => exact ⟨j + 1, v, true, by omega, by go_num, rfl, rfl, HA.out, HS.out, hb57⟩
                  case measure => simp [intOf]; omega
                · have HS := Lib.hid (show false = strV (hs.take (j + 1)) x y by rw [hs', decide_eq_false hm]; rfl)
                  have hm' : (n == -1) = false := by simpa using hm
                  clear hs'
                  go_wp2_with fail
                  go_at_call 41; with_reducible refine (iHoldsAt_is HV.out _ (by omega) (by omega) (by omega) (by omega)).mono ?_
                  rintro e w6 ⟨rfl, hb1⟩
                  have hb56 : Below w5.heap.size w5 w6 := S_below hb1 (hb5.alloc hsz5 _) (by simp; omega)
                  have cc_w60 := cell_keep (p := ⟨w2.heap.size, 0, none⟩) (v := .slice AR R.length cR) hb1 (by first | assumption | (go_keep; done) | (go_simp; done) | (simp; done)) (by first | omega | (simp <;> omega))
                  have cc_w61 := cell_keep (p := ⟨w4.heap.size, 0, none⟩) (v := .int .i64 x) hb1 (by first | assumption | (go_keep; done) | (go_simp; done) | (simp; done)) (by first | omega | (simp <;> omega))
                  have cc_w62 := cell_keep (p := ⟨w4.heap.size, 1, none⟩) (v := .int .i64 y) hb1 (by first | assumption | (go_keep; done) | (go_simp; done) | (simp; done)) (by first | omega | (simp <;> omega))
                  have cc_w63 := cell_keep (p := ⟨w4.heap.size, 2, none⟩) (v := .int .i64 1) hb1 (by first | assumption | (go_keep; done) | (go_simp; done) | (simp; done)) (by first | omega | (simp <;> omega))
                  have cc_w64 := cell_keep (p := ⟨wr.heap.size, 0, none⟩) (v := .int .i64 h0) hb1 (by first | assumption | (go_keep; done) | (go_simp; done) | (simp; done)) (by first | omega | (simp <;> omega))
                  have cc_w65 := cell_keep (p := ⟨wr.heap.size, 1, none⟩) (v := .int .i64 h1) hb1 (by first | assumption | (go_keep; done) | (go_simp; done) | (simp; done)) (by first | omega | (simp <;> omega))
                  have cc_w66 := cell_keep (p := ⟨wr.heap.size, 2, none⟩) (v := .int .i64 h2) hb1 (by first | assumption | (go_keep; done) | (go_simp; done) | (simp; done)) (by first | omega | (simp <;> omega))
                  have hS1_w6 : Below w.heap.size w w6 := S_below hb1 (by repeat (first | exact Below.refl _ _ | assumption | refine below_drewN ?_ _ | refine Below.drew ?_ | refine Below.alloc ?_ (by first | omega | (simp <;> omega)) _ | refine Below.setCell ?_ (by first | omega | (simp <;> omega)) _)) (by first | omega | (simp <;> omega))
                  have hz1_w6 : w.heap.size ≤ w6.heap.size := S_size hb1 (by first | omega | (simp <;> omega))
                  have hqb_w60 : w2.heap.size < w6.heap.size := S_lt hb1 (by first | omega | (simp <;> omega))
                  have hqb_w61 : w4.heap.size < w6.heap.size := S_lt hb1 (by first | omega | (simp <;> omega))
                  have hqb_w62 : wr.heap.size < w6.heap.size := S_lt hb1 (by first | omega | (simp <;> omega))
                  clear hb1
                  go_wp2_with fail
                  go_at_call 42; with_reducible refine (sideOf_is HN.out _ (by omega) (by omega) (by omega) (by omega)).mono ?_
                  rintro e w7 ⟨rfl, hb1⟩
                  have hb57 : Below w5.heap.size w5 w7 := S_below hb1 hb56 hb56.size
                  have cc_w70 := cell_keep (p := ⟨w2.heap.size, 0, none⟩) (v := .slice AR R.length cR) hb1 (by first | assumption | (go_keep; done) | (go_simp; done) | (simp; done)) (by first | omega | (simp <;> omega))
                  have cc_w71 := cell_keep (p := ⟨w4.heap.size, 0, none⟩) (v := .int .i64 x) hb1 (by first | assumption | (go_keep; done) | (go_simp; done) | (simp; done)) (by first | omega | (simp <;> omega))
                  have cc_w72 := cell_keep (p := ⟨w4.heap.size, 1, none⟩) (v := .int .i64 y) hb1 (by first | assumption | (go_keep; done) | (go_simp; done) | (simp; done)) (by first | omega | (simp <;> omega))
                  have cc_w73 := cell_keep (p := ⟨w4.heap.size, 2, none⟩) (v := .int .i64 1) hb1 (by first | assumption | (go_keep; done) | (go_simp; done) | (simp; done)) (by first | omega | (simp <;> omega))
                  have cc_w74 := cell_keep (p := ⟨wr.heap.size, 0, none⟩) (v := .int .i64 h0) hb1 (by first | assumption | (go_keep; done) | (go_simp; done) | (simp; done)) (by first | omega | (simp <;> omega))
                  have cc_w75 := cell_keep (p := ⟨wr.heap.size, 1, none⟩) (v := .int .i64 h1) hb1 (by first | assumption | (go_keep; done) | (go_simp; done) | (simp; done)) (by first | omega | (simp <;> omega))
                  have cc_w76 := cell_keep (p := ⟨wr.heap.size, 2, none⟩) (v := .int .i64 h2) hb1 (by first | assumption | (go_keep; done) | (go_simp; done) | (simp; done)) (by first | omega | (simp <;> omega))
                  have hS1_w7 : Below w.heap.size w w7 := S_below hb1 (by repeat (first | exact Below.refl _ _ | assumption | refine below_drewN ?_ _ | refine Below.drew ?_ | refine Below.alloc ?_ (by first | omega | (simp <;> omega)) _ | refine Below.setCell ?_ (by first | omega | (simp <;> omega)) _)) (by first | omega | (simp <;> omega))
                  have hz1_w7 : w.heap.size ≤ w7.heap.size := S_size hb1 (by first | omega | (simp <;> omega))
                  have hqb_w70 : w2.heap.size < w7.heap.size := S_lt hb1 (by first | omega | (simp <;> omega))
                  have hqb_w71 : w4.heap.size < w7.heap.size := S_lt hb1 (by first | omega | (simp <;> omega))
                  have hqb_w72 : wr.heap.size < w7.heap.size := S_lt hb1 (by first | omega | (simp <;> omega))
                  clear hb1
                  go_wp2_with fail
                  go_roundw
                  case rel => exact ⟨j + 1, v, false, by omega, by go_num, rfl, rfl, HA.out, HS.out, hb57⟩
                  case measure => simp [intOf]; omega
          · have ha : av = allV hs x y := by rw [HA.out, List.take_of_length_le (by omega)]
            have hs' : sv = strV hs x y := by rw [HS.out, List.take_of_length_le (by omega)]
            rw [← ha, ← hs'] at LF
            have RR6 := Lib.hid (RR5.out.step hb5)
            have h36 : Below w3.heap.size w3 wr := S_below hb5 h35 h35.size
            clear HA HS ha hs'
            obtain ⟨H, hH⟩ : ∃ H, hasV R x y 1 = H := ⟨_, rfl⟩
            rw [hH] at LF
            have HQ := Lib.hid hH; clear hH
            cases H
            · obtain ⟨l1, l2⟩ := LF.out.2 rfl
              subst l1
              clear LF
              cases av
              · clear l2
                go_wp2_with fail
                go_at_call 36; with_reducible refine (iHasSpot_is HQ.out _ _ _ _ rfl RR6.out (by omega) (by omega) (by omega) (by omega) (by omega)).mono ?_
                rintro e wa ⟨rfl, hb1⟩
                have h3a : Below w3.heap.size w3 wa := S_below hb1 h36 h36.size
                have cc_wa0 := cell_keep (p := ⟨w2.heap.size, 0, none⟩) (v := .slice AR R.length cR) hb1 (by first | assumption | (go_keep; done) | (go_simp; done) | (simp; done)) (by first | omega | (simp <;> omega))
                have cc_wa1 := cell_keep (p := ⟨w4.heap.size, 0, none⟩) (v := .int .i64 x) hb1 (by first | assumption | (go_keep; done) | (go_simp; done) | (simp; done)) (by first | omega | (simp <;> omega))
                have cc_wa2 := cell_keep (p := ⟨w4.heap.size, 1, none⟩) (v := .int .i64 y) hb1 (by first | assumption | (go_keep; done) | (go_simp; done) | (simp; done)) (by first | omega | (simp <;> omega))
                have cc_wa3 := cell_keep (p := ⟨w4.heap.size, 2, none⟩) (v := .int .i64 1) hb1 (by first | assumption | (go_keep; done) | (go_simp; done) | (simp; done)) (by first | omega | (simp <;> omega))
                have hS1_wa : Below w.heap.size w wa := S_below hb1 (by repeat (first | exact Below.refl _ _ | assumption | refine below_drewN ?_ _ | refine Below.drew ?_ | refine Below.alloc ?_ (by first | omega | (simp <;> omega)) _ | refine Below.setCell ?_ (by first | omega | (simp <;> omega)) _)) (by first | omega | (simp <;> omega))
                have hz1_wa : w.heap.size ≤ wa.heap.size := S_size hb1 (by first | omega | (simp <;> omega))
                have hqb_wa0 : w2.heap.size < wa.heap.size := S_lt hb1 (by first | omega | (simp <;> omega))
                have hqb_wa1 : w4.heap.size < wa.heap.size := S_lt hb1 (by first | omega | (simp <;> omega))
                clear hb1
                go_wp2_with fail
                go_roundw
                case rel => exact ⟨k + 1, by omega, by go_num, h3a⟩
                case measure => simp [intOf]; omega
              · have HR0 := Lib.hid (l2 rfl)
                clear l2
                go_wp2_with fail
                go_at_call 36; with_reducible refine (iHasSpot_is HQ.out _ _ _ _ rfl RR6.out (by omega) (by omega) (by omega) (by omega) (by omega)).mono ?_
                rintro e wa ⟨rfl, hb1⟩
                have h3a : Below w3.heap.size w3 wa := S_below hb1 h36 h36.size
                have cc_wa0 := cell_keep (p := ⟨w2.heap.size, 0, none⟩) (v := .slice AR R.length cR) hb1 (by first | assumption | (go_keep; done) | (go_simp; done) | (simp; done)) (by first | omega | (simp <;> omega))
                have cc_wa1 := cell_keep (p := ⟨w4.heap.size, 0, none⟩) (v := .int .i64 x) hb1 (by first | assumption | (go_keep; done) | (go_simp; done) | (simp; done)) (by first | omega | (simp <;> omega))
                have cc_wa2 := cell_keep (p := ⟨w4.heap.size, 1, none⟩) (v := .int .i64 y) hb1 (by first | assumption | (go_keep; done) | (go_simp; done) | (simp; done)) (by first | omega | (simp <;> omega))
                have cc_wa3 := cell_keep (p := ⟨w4.heap.size, 2, none⟩) (v := .int .i64 1) hb1 (by first | assumption | (go_keep; done) | (go_simp; done) | (simp; done)) (by first | omega | (simp <;> omega))
                have hS1_wa : Below w.heap.size w wa := S_below hb1 (by repeat (first | exact Below.refl _ _ | assumption | refine below_drewN ?_ _ | refine Below.drew ?_ | refine Below.alloc ?_ (by first | omega | (simp <;> omega)) _ | refine Below.setCell ?_ (by first | omega | (simp <;> omega)) _)) (by first | omega | (simp <;> omega))
                have hz1_wa : w.heap.size ≤ wa.heap.size := S_size hb1 (by first | omega | (simp <;> omega))
                have hqb_wa0 : w2.heap.size < wa.heap.size := S_lt hb1 (by first | omega | (simp <;> omega))
                have hqb_wa1 : w4.heap.size < wa.heap.size := S_lt hb1 (by first | omega | (simp <;> omega))
                clear hb1
                go_wp2_with fail
                go_at_call 20; with_reducible refine (iIsVoid_lit (v := true) _ _ _ _ (by omega) (decide_eq_true HR0.out)).mono ?_
                rintro e wb ⟨rfl, hb1⟩
                have h3b : Below w3.heap.size w3 wb := S_below hb1 h3a h3a.size
                have cc_wb0 := cell_keep (p := ⟨w2.heap.size, 0, none⟩) (v := .slice AR R.length cR) hb1 (by first | assumption | (go_keep; done) | (go_simp; done) | (simp; done)) (by first | omega | (simp <;> omega))
                have cc_wb1 := cell_keep (p := ⟨w4.heap.size, 0, none⟩) (v := .int .i64 x) hb1 (by first | assumption | (go_keep; done) | (go_simp; done) | (simp; done)) (by first | omega | (simp <;> omega))
                have cc_wb2 := cell_keep (p := ⟨w4.heap.size, 1, none⟩) (v := .int .i64 y) hb1 (by first | assumption | (go_keep; done) | (go_simp; done) | (simp; done)) (by first | omega | (simp <;> omega))
                have cc_wb3 := cell_keep (p := ⟨w4.heap.size, 2, none⟩) (v := .int .i64 1) hb1 (by first | assumption | (go_keep; done) | (go_simp; done) | (simp; done)) (by first | omega | (simp <;> omega))
                have hS1_wb : Below w.heap.size w wb := S_below hb1 (by repeat (first | exact Below.refl _ _ | assumption | refine below_drewN ?_ _ | refine Below.drew ?_ | refine Below.alloc ?_ (by first | omega | (simp <;> omega)) _ | refine Below.setCell ?_ (by first | omega | (simp <;> omega)) _)) (by first | omega | (simp <;> omega))
                have hz1_wb : w.heap.size ≤ wb.heap.size := S_size hb1 (by first | omega | (simp <;> omega))
                have hqb_wb0 : w2.heap.size < wb.heap.size := S_lt hb1 (by first | omega | (simp <;> omega))
                have hqb_wb1 : w4.heap.size < wb.heap.size := S_lt hb1 (by first | omega | (simp <;> omega))
                clear hb1
                go_wp2_with fail
                go_roundw
                case rel => exact ⟨k + 1, by omega, by go_num, h3b⟩
                case measure => simp [intOf]; omega
            · obtain ⟨l1, l2⟩ := LF.out.1 rfl
              subst l1
              clear LF
              cases sv
              · skip
                go_wp2_with fail
                go_at_call 36; with_reducible refine (iHasSpot_is HQ.out _ _ _ _ rfl RR6.out (by omega) (by omega) (by omega) (by omega) (by omega)).mono ?_
                rintro e wa ⟨rfl, hb1⟩
                have h3a : Below w3.heap.size w3 wa := S_below hb1 h36 h36.size
                have RRa := Lib.hid (RR6.out.step hb1)
                have cc_wa0 := cell_keep (p := ⟨w2.heap.size, 0, none⟩) (v := .slice AR R.length cR) hb1 (by first | assumption | (go_keep; done) | (go_simp; done) | (simp; done)) (by first | omega | (simp <;> omega))
                have cc_wa1 := cell_keep (p := ⟨w4.heap.size, 0, none⟩) (v := .int .i64 x) hb1 (by first | assumption | (go_keep; done) | (go_simp; done) | (simp; done)) (by first | omega | (simp <;> omega))
                have cc_wa2 := cell_keep (p := ⟨w4.heap.size, 1, none⟩) (v := .int .i64 y) hb1 (by first | assumption | (go_keep; done) | (go_simp; done) | (simp; done)) (by first | omega | (simp <;> omega))
                have cc_wa3 := cell_keep (p := ⟨w4.heap.size, 2, none⟩) (v := .int .i64 1) hb1 (by first | assumption | (go_keep; done) | (go_simp; done) | (simp; done)) (by first | omega | (simp <;> omega))
                have hS1_wa : Below w.heap.size w wa := S_below hb1 (by repeat (first | exact Below.refl _ _ | assumption | refine below_drewN ?_ _ | refine Below.drew ?_ | refine Below.alloc ?_ (by first | omega | (simp <;> omega)) _ | refine Below.setCell ?_ (by first | omega | (simp <;> omega)) _)) (by first | omega | (simp <;> omega))
                have hz1_wa : w.heap.size ≤ wa.heap.size := S_size hb1 (by first | omega | (simp <;> omega))
                have hqb_wa0 : w2.heap.size < wa.heap.size := S_lt hb1 (by first | omega | (simp <;> omega))
                have hqb_wa1 : w4.heap.size < wa.heap.size := S_lt hb1 (by first | omega | (simp <;> omega))
                clear hb1
                go_wp2_with fail
                go_at_call 20; with_reducible refine (iIsVoid_lit (v := false) _ _ _ _ (by omega) (decide_eq_false l2)).mono ?_
                rintro e wb ⟨rfl, hb1⟩
                have h3b : Below w3.heap.size w3 wb := S_below hb1 h3a h3a.size
                have RRb := Lib.hid (RRa.out.step hb1)
                have cc_wb0 := cell_keep (p := ⟨w2.heap.size, 0, none⟩) (v := .slice AR R.length cR) hb1 (by first | assumption | (go_keep; done) | (go_simp; done) | (simp; done)) (by first | omega | (simp <;> omega))
                have cc_wb1 := cell_keep (p := ⟨w4.heap.size, 0, none⟩) (v := .int .i64 x) hb1 (by first | assumption | (go_keep; done) | (go_simp; done) | (simp; done)) (by first | omega | (simp <;> omega))
                have cc_wb2 := cell_keep (p := ⟨w4.heap.size, 1, none⟩) (v := .int .i64 y) hb1 (by first | assumption | (go_keep; done) | (go_simp; done) | (simp; done)) (by first | omega | (simp <;> omega))
                have cc_wb3 := cell_keep (p := ⟨w4.heap.size, 2, none⟩) (v := .int .i64 1) hb1 (by first | assumption | (go_keep; done) | (go_simp; done) | (simp; done)) (by first | omega | (simp <;> omega))
                have hS1_wb : Below w.heap.size w wb := S_below hb1 (by repeat (first | exact Below.refl _ _ | assumption | refine below_drewN ?_ _ | refine Below.drew ?_ | refine Below.alloc ?_ (by first | omega | (simp <;> omega)) _ | refine Below.setCell ?_ (by first | omega | (simp <;> omega)) _)) (by first | omega | (simp <;> omega))
                have hz1_wb : w.heap.size ≤ wb.heap.size := S_size hb1 (by first | omega | (simp <;> omega))
                have hqb_wb0 : w2.heap.size < wb.heap.size := S_lt hb1 (by first | omega | (simp <;> omega))
                have hqb_wb1 : w4.heap.size < wb.heap.size := S_lt hb1 (by first | omega | (simp <;> omega))
                clear hb1
                go_wp2_with fail
                go_at_call 36; with_reducible refine (iHasSpot_is HQ.out _ _ _ _ rfl RRb.out (by omega) (by omega) (by omega) (by omega) (by omega)).mono ?_
                rintro e wc ⟨rfl, hb1⟩
                have h3c : Below w3.heap.size w3 wc := S_below hb1 h3b h3b.size
                have cc_wc0 := cell_keep (p := ⟨w2.heap.size, 0, none⟩) (v := .slice AR R.length cR) hb1 (by first | assumption | (go_keep; done) | (go_simp; done) | (simp; done)) (by first | omega | (simp <;> omega))
                have cc_wc1 := cell_keep (p := ⟨w4.heap.size, 0, none⟩) (v := .int .i64 x) hb1 (by first | assumption | (go_keep; done) | (go_simp; done) | (simp; done)) (by first | omega | (simp <;> omega))
                have cc_wc2 := cell_keep (p := ⟨w4.heap.size, 1, none⟩) (v := .int .i64 y) hb1 (by first | assumption | (go_keep; done) | (go_simp; done) | (simp; done)) (by first | omega | (simp <;> omega))
                have cc_wc3 := cell_keep (p := ⟨w4.heap.size, 2, none⟩) (v := .int .i64 1) hb1 (by first | assumption | (go_keep; done) | (go_simp; done) | (simp; done)) (by first | omega | (simp <;> omega))
                have hS1_wc : Below w.heap.size w wc := S_below hb1 (by repeat (first | exact Below.refl _ _ | assumption | refine below_drewN ?_ _ | refine Below.drew ?_ | refine Below.alloc ?_ (by first | omega | (simp <;> omega)) _ | refine Below.setCell ?_ (by first | omega | (simp <;> omega)) _)) (by first | omega | (simp <;> omega))
                have hz1_wc : w.heap.size ≤ wc.heap.size := S_size hb1 (by first | omega | (simp <;> omega))
                have hqb_wc0 : w2.heap.size < wc.heap.size := S_lt hb1 (by first | omega | (simp <;> omega))
                have hqb_wc1 : w4.heap.size < wc.heap.size := S_lt hb1 (by first | omega | (simp <;> omega))
                clear hb1
                go_wp2_with fail
                go_roundw
                case rel => exact ⟨k + 1, by omega, by go_num, h3c⟩
                case measure => simp [intOf]; omega
              · skip
                go_wp2_with fail
                go_at_call 36; with_reducible refine (iHasSpot_is HQ.out _ _ _ _ rfl RR6.out (by omega) (by omega) (by omega) (by omega) (by omega)).mono ?_
                rintro e wa ⟨rfl, hb1⟩
                have h3a : Below w3.heap.size w3 wa := S_below hb1 h36 h36.size
                have RRa := Lib.hid (RR6.out.step hb1)
                have cc_wa0 := cell_keep (p := ⟨w2.heap.size, 0, none⟩) (v := .slice AR R.length cR) hb1 (by first | assumption | (go_keep; done) | (go_simp; done) | (simp; done)) (by first | omega | (simp <;> omega))
                have cc_wa1 := cell_keep (p := ⟨w4.heap.size, 0, none⟩) (v := .int .i64 x) hb1 (by first | assumption | (go_keep; done) | (go_simp; done) | (simp; done)) (by first | omega | (simp <;> omega))
                have cc_wa2 := cell_keep (p := ⟨w4.heap.size, 1, none⟩) (v := .int .i64 y) hb1 (by first | assumption | (go_keep; done) | (go_simp; done) | (simp; done)) (by first | omega | (simp <;> omega))
                have cc_wa3 := cell_keep (p := ⟨w4.heap.size, 2, none⟩) (v := .int .i64 1) hb1 (by first | assumption | (go_keep; done) | (go_simp; done) | (simp; done)) (by first | omega | (simp <;> omega))
                have hS1_wa : Below w.heap.size w wa := S_below hb1 (by repeat (first | exact Below.refl _ _ | assumption | refine below_drewN ?_ _ | refine Below.drew ?_ | refine Below.alloc ?_ (by first | omega | (simp <;> omega)) _ | refine Below.setCell ?_ (by first | omega | (simp <;> omega)) _)) (by first | omega | (simp <;> omega))
                have hz1_wa : w.heap.size ≤ wa.heap.size := S_size hb1 (by first | omega | (simp <;> omega))
                have hqb_wa0 : w2.heap.size < wa.heap.size := S_lt hb1 (by first | omega | (simp <;> omega))
                have hqb_wa1 : w4.heap.size < wa.heap.size := S_lt hb1 (by first | omega | (simp <;> omega))
                clear hb1
                go_wp2_with fail
                go_at_call 36; with_reducible refine (iHasSpot_is HQ.out _ _ _ _ rfl RRa.out (by omega) (by omega) (by omega) (by omega) (by omega)).mono ?_
                rintro e wd ⟨rfl, hb1⟩
                have h3d : Below w3.heap.size w3 wd := S_below hb1 h3a h3a.size
                have RRd := Lib.hid (RRa.out.step hb1)
                have cc_wd0 := cell_keep (p := ⟨w2.heap.size, 0, none⟩) (v := .slice AR R.length cR) hb1 (by first | assumption | (go_keep; done) | (go_simp; done) | (simp; done)) (by first | omega | (simp <;> omega))
                have cc_wd1 := cell_keep (p := ⟨w4.heap.size, 0, none⟩) (v := .int .i64 x) hb1 (by first | assumption | (go_keep; done) | (go_simp; done) | (simp; done)) (by first | omega | (simp <;> omega))
                have cc_wd2 := cell_keep (p := ⟨w4.heap.size, 1, none⟩) (v := .int .i64 y) hb1 (by first | assumption | (go_keep; done) | (go_simp; done) | (simp; done)) (by first | omega | (simp <;> omega))
                have cc_wd3 := cell_keep (p := ⟨w4.heap.size, 2, none⟩) (v := .int .i64 1) hb1 (by first | assumption | (go_keep; done) | (go_simp; done) | (simp; done)) (by first | omega | (simp <;> omega))
                have hS1_wd : Below w.heap.size w wd := S_below hb1 (by repeat (first | exact Below.refl _ _ | assumption | refine below_drewN ?_ _ | refine Below.drew ?_ | refine Below.alloc ?_ (by first | omega | (simp <;> omega)) _ | refine Below.setCell ?_ (by first | omega | (simp <;> omega)) _)) (by first | omega | (simp <;> omega))
                have hz1_wd : w.heap.size ≤ wd.heap.size := S_size hb1 (by first | omega | (simp <;> omega))
                have hqb_wd0 : w2.heap.size < wd.heap.size := S_lt hb1 (by first | omega | (simp <;> omega))
                have hqb_wd1 : w4.heap.size < wd.heap.size := S_lt hb1 (by first | omega | (simp <;> omega))
                clear hb1
                go_wp2_with fail
                go_at_call 20; with_reducible refine (iIsVoid_lit (v := false) _ _ _ _ (by omega) (decide_eq_false l2)).mono ?_
                rintro e wb ⟨rfl, hb1⟩
                have h3b : Below w3.heap.size w3 wb := S_below hb1 h3d h3d.size
                have RRb := Lib.hid (RRd.out.step hb1)
                have cc_wb0 := cell_keep (p := ⟨w2.heap.size, 0, none⟩) (v := .slice AR R.length cR) hb1 (by first | assumption | (go_keep; done) | (go_simp; done) | (simp; done)) (by first | omega | (simp <;> omega))
                have cc_wb1 := cell_keep (p := ⟨w4.heap.size, 0, none⟩) (v := .int .i64 x) hb1 (by first | assumption | (go_keep; done) | (go_simp; done) | (simp; done)) (by first | omega | (simp <;> omega))
                have cc_wb2 := cell_keep (p := ⟨w4.heap.size, 1, none⟩) (v := .int .i64 y) hb1 (by first | assumption | (go_keep; done) | (go_simp; done) | (simp; done)) (by first | omega | (simp <;> omega))
                have cc_wb3 := cell_keep (p := ⟨w4.heap.size, 2, none⟩) (v := .int .i64 1) hb1 (by first | assumption | (go_keep; done) | (go_simp; done) | (simp; done)) (by first | omega | (simp <;> omega))
                have hS1_wb : Below w.heap.size w wb := S_below hb1 (by repeat (first | exact Below.refl _ _ | assumption | refine below_drewN ?_ _ | refine Below.drew ?_ | refine Below.alloc ?_ (by first | omega | (simp <;> omega)) _ | refine Below.setCell ?_ (by first | omega | (simp <;> omega)) _)) (by first | omega | (simp <;> omega))
                have hz1_wb : w.heap.size ≤ wb.heap.size := S_size hb1 (by first | omega | (simp <;> omega))
                have hqb_wb0 : w2.heap.size < wb.heap.size := S_lt hb1 (by first | omega | (simp <;> omega))
                have hqb_wb1 : w4.heap.size < wb.heap.size := S_lt hb1 (by first | omega | (simp <;> omega))
                clear hb1
                go_wp2_with fail
                go_at_call 36; with_reducible refine (iHasSpot_is HQ.out _ _ _ _ rfl RRb.out (by omega) (by omega) (by omega) (by omega) (by omega)).mono ?_
                rintro e wc ⟨rfl, hb1⟩
                have h3c : Below w3.heap.size w3 wc := S_below hb1 h3b h3b.size
                have cc_wc0 := cell_keep (p := ⟨w2.heap.size, 0, none⟩) (v := .slice AR R.length cR) hb1 (by first | assumption | (go_keep; done) | (go_simp; done) | (simp; done)) (by first | omega | (simp <;> omega))
                have cc_wc1 := cell_keep (p := ⟨w4.heap.size, 0, none⟩) (v := .int .i64 x) hb1 (by first | assumption | (go_keep; done) | (go_simp; done) | (simp; done)) (by first | omega | (simp <;> omega))
                have cc_wc2 := cell_keep (p := ⟨w4.heap.size, 1, none⟩) (v := .int .i64 y) hb1 (by first | assumption | (go_keep; done) | (go_simp; done) | (simp; done)) (by first | omega | (simp <;> omega))
                have cc_wc3 := cell_keep (p := ⟨w4.heap.size, 2, none⟩) (v := .int .i64 1) hb1 (by first | assumption | (go_keep; done) | (go_simp; done) | (simp; done)) (by first | omega | (simp <;> omega))
                have hS1_wc : Below w.heap.size w wc := S_below hb1 (by repeat (first | exact Below.refl _ _ | assumption | refine below_drewN ?_ _ | refine Below.drew ?_ | refine Below.alloc ?_ (by first | omega | (simp <;> omega)) _ | refine Below.setCell ?_ (by first | omega | (simp <;> omega)) _)) (by first | omega | (simp <;> omega))
                have hz1_wc : w.heap.size ≤ wc.heap.size := S_size hb1 (by first | omega | (simp <;> omega))
                have hqb_wc0 : w2.heap.size < wc.heap.size := S_lt hb1 (by first | omega | (simp <;> omega))
                have hqb_wc1 : w4.heap.size < wc.heap.size := S_lt hb1 (by first | omega | (simp <;> omega))
                clear hb1
                go_wp2_with fail
                go_roundw
                case rel => exact ⟨k + 1, by omega, by go_num, h3c⟩
                case measure => simp [intOf]; omega
      · obtain ⟨R2, hR2⟩ : ∃ R2, rfR R = R2 := ⟨_, rfl⟩
        have HR2 := Lib.hid hR2
        have hlen2 : R2.length ≤ 40 := by rw [← hR2]; exact rfR_len
        go_wp2_with fail
        go_at_call 31; with_reducible refine (iRegionFrom_to HR2.out F.out.fine2 rfl RRr.out (by omega)).mono ?_
        rintro e w8 ⟨A2, c2, rfl, hO8, hb1⟩
        have RR8 := Lib.hid (RRr.out.step hb1)
        have cc_w80 := cell_keep (p := ⟨w2.heap.size, 0, none⟩) (v := .slice AR R.length cR) hb1 (by first | assumption | (go_keep; done) | (go_simp; done) | (simp; done)) (by first | omega | (simp <;> omega))
        have hS1_w8 : Below w.heap.size w w8 := S_below hb1 (by repeat (first | exact Below.refl _ _ | assumption | refine below_drewN ?_ _ | refine Below.drew ?_ | refine Below.alloc ?_ (by first | omega | (simp <;> omega)) _ | refine Below.setCell ?_ (by first | omega | (simp <;> omega)) _)) (by first | omega | (simp <;> omega))
        have hz1_w8 : w.heap.size ≤ w8.heap.size := S_size hb1 (by first | omega | (simp <;> omega))
        have hqb_w80 : w2.heap.size < w8.heap.size := S_lt hb1 (by first | omega | (simp <;> omega))
        clear hb1
        have R28 := Lib.hid hO8.of_len
        clear hO8
        by_cases h0 : R.length = 0
        · have H0 := Lib.hid h0
          clear h0
          go_wp2_with fail
          go_at_call 20; with_reducible refine (iIsVoid_lit (v := true) _ _ _ _ (by omega) (decide_eq_true H0.out)).mono ?_
          rintro e w9 ⟨rfl, hb1⟩
          have cc_w90 := cell_keep (p := ⟨w2.heap.size, 0, none⟩) (v := .slice AR R.length cR) hb1 (by first | assumption | (go_keep; done) | (go_simp; done) | (simp; done)) (by first | omega | (simp <;> omega))
          have cc_w91 := cell_keep (p := ⟨w8.heap.size, 0, none⟩) (v := .slice A2 R2.length c2) hb1 (by first | assumption | (go_keep; done) | (go_simp; done) | (simp; done)) (by first | omega | (simp <;> omega))
          have hS1_w9 : Below w.heap.size w w9 := S_below hb1 (by repeat (first | exact Below.refl _ _ | assumption | refine below_drewN ?_ _ | refine Below.drew ?_ | refine Below.alloc ?_ (by first | omega | (simp <;> omega)) _ | refine Below.setCell ?_ (by first | omega | (simp <;> omega)) _)) (by first | omega | (simp <;> omega))
          have hz1_w9 : w.heap.size ≤ w9.heap.size := S_size hb1 (by first | omega | (simp <;> omega))
          have hqb_w90 : w2.heap.size < w9.heap.size := S_lt hb1 (by first | omega | (simp <;> omega))
          have hqb_w91 : w8.heap.size < w9.heap.size := S_lt hb1 (by first | omega | (simp <;> omega))
          clear hb1
          go_wp2_with fail
          go_ret
          exact ⟨rfl, (by repeat (first | exact Below.refl _ _ | assumption | refine below_drewN ?_ _ | refine Below.drew ?_ | refine Below.alloc ?_ (by first | omega | (simp <;> omega)) _ | refine Below.setCell ?_ (by first | omega | (simp <;> omega)) _))⟩
        · have hs2 : R2 = R := by rw [← hR2]; exact F.out.same h0
          have HS2 := Lib.hid hs2
          clear hs2 hR2
          go_wp2_with fail
          go_at_call 20; with_reducible refine (iIsVoid_lit (v := false) _ _ _ _ (by omega) (decide_eq_false h0)).mono ?_
          rintro e w9 ⟨rfl, hb1⟩
          have RR9 := Lib.hid ((RR8.out.step ((Below.refl _ _).alloc (Nat.le_refl _) _)).step hb1)
          have R29 := Lib.hid ((R28.out.step ((Below.refl _ _).alloc (Nat.le_refl _) _)).step hb1)
          have cc_w90 := cell_keep (p := ⟨w2.heap.size, 0, none⟩) (v := .slice AR R.length cR) hb1 (by first | assumption | (go_keep; done) | (go_simp; done) | (simp; done)) (by first | omega | (simp <;> omega))
          have cc_w91 := cell_keep (p := ⟨w8.heap.size, 0, none⟩) (v := .slice A2 R2.length c2) hb1 (by first | assumption | (go_keep; done) | (go_simp; done) | (simp; done)) (by first | omega | (simp <;> omega))
          have hS1_w9 : Below w.heap.size w w9 := S_below hb1 (by repeat (first | exact Below.refl _ _ | assumption | refine below_drewN ?_ _ | refine Below.drew ?_ | refine Below.alloc ?_ (by first | omega | (simp <;> omega)) _ | refine Below.setCell ?_ (by first | omega | (simp <;> omega)) _)) (by first | omega | (simp <;> omega))
          have hz1_w9 : w.heap.size ≤ w9.heap.size := S_size hb1 (by first | omega | (simp <;> omega))
          have hqb_w90 : w2.heap.size < w9.heap.size := S_lt hb1 (by first | omega | (simp <;> omega))
          have hqb_w91 : w8.heap.size < w9.heap.size := S_lt hb1 (by first | omega | (simp <;> omega))
          clear hb1
          go_wp2_with fail
          go_at_call 23; with_reducible refine (iSameRegion_lit (v := true) _ _ _ _ _ _ R R2 _ rfl rfl RR9.out R29.out (by omega) (by omega) (decide_eq_true HS2.out.symm)).mono ?_
          rintro e wz ⟨rfl, hb1⟩
          have cc_wz0 := cell_keep (p := ⟨w2.heap.size, 0, none⟩) (v := .slice AR R.length cR) hb1 (by first | assumption | (go_keep; done) | (go_simp; done) | (simp; done)) (by first | omega | (simp <;> omega))
          have cc_wz1 := cell_keep (p := ⟨w8.heap.size, 0, none⟩) (v := .slice A2 R2.length c2) hb1 (by first | assumption | (go_keep; done) | (go_simp; done) | (simp; done)) (by first | omega | (simp <;> omega))
          have hS1_wz : Below w.heap.size w wz := S_below hb1 (by repeat (first | exact Below.refl _ _ | assumption | refine below_drewN ?_ _ | refine Below.drew ?_ | refine Below.alloc ?_ (by first | omega | (simp <;> omega)) _ | refine Below.setCell ?_ (by first | omega | (simp <;> omega)) _)) (by first | omega | (simp <;> omega))
          have hz1_wz : w.heap.size ≤ wz.heap.size := S_size hb1 (by first | omega | (simp <;> omega))
          have hqb_wz0 : w2.heap.size < wz.heap.size := S_lt hb1 (by first | omega | (simp <;> omega))
          have hqb_wz1 : w8.heap.size < wz.heap.size := S_lt hb1 (by first | omega | (simp <;> omega))
          clear hb1
          go_wp2_with fail
          go_ret
          exact ⟨rfl, (by repeat (first | exact Below.refl _ _ | assumption | refine below_drewN ?_ _ | refine Below.drew ?_ | refine Below.alloc ?_ (by first | omega | (simp <;> omega)) _ | refine Below.setCell ?_ (by first | omega | (simp <;> omega)) _))⟩

end Go.Proofs.Ythdaoadleeelnaa
