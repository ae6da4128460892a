/- Slices of half planes in memory: what each helper of the laws does with them. -/
import Derived.Test.YthdaoadleeelnaaNum
import Derived.Test.YthdaoadleeelnaaPlane
namespace Go.Proofs.Ythdaoadleeelnaa
open Go.ChangeShapes Go.WideShapes Go.ChangeAt Go.RowKit
attribute [local go_sem ↓] Go.wp_at_zero Go.wp_at_succ
set_option linter.unusedVariables false

/-- A slice's elements are these half planes; it lies below block B. -/
def HsAt (w : World) (B : Nat) (A : Option Addr) (hs : List Hp) : Prop :=
  hs = [] ∨ ∃ b off : Nat, A = some ⟨b, off, none⟩ ∧ b < B ∧ ∀ (k : Nat) (h : Hp), hs[k]? = some h →
    w.cell? ⟨b, off + k * 3, none⟩ = some (.int .i64 h.1) ∧ w.cell? ⟨b, off + k * 3 + 1, none⟩ = some (.int .i64 h.2.1) ∧ w.cell? ⟨b, off + k * 3 + 2, none⟩ = some (.int .i64 h.2.2)

theorem HsAt.below {w w' : World} {B : Nat} {A : Option Addr} {hs : List Hp} (h : HsAt w B A hs) (hb : Below B w w') : HsAt w' B A hs := by
  rcases h with h | ⟨b, off, e, hlt, hc⟩
  · exact .inl h
  · refine .inr ⟨b, off, e, hlt, fun k x hx => ?_⟩
    obtain ⟨h1, h2, h3⟩ := hc k x hx
    exact ⟨(hb.cell (p := ⟨b, _, none⟩) hlt).trans h1, (hb.cell (p := ⟨b, _, none⟩) hlt).trans h2, (hb.cell (p := ⟨b, _, none⟩) hlt).trans h3⟩

theorem HsAt.more {w : World} {B B' : Nat} {A : Option Addr} {hs : List Hp} (h : HsAt w B A hs) (hB : B ≤ B') : HsAt w B' A hs := by
  rcases h with h | ⟨b, off, e, hlt, hc⟩
  · exact .inl h
  · exact .inr ⟨b, off, e, by omega, hc⟩
/-- What a step of a loop reads. -/
theorem HsAt.at_ {w : World} {B : Nat} {A : Option Addr} {hs : List Hp} (h : HsAt w B A hs) {k : Nat} (hk : k < hs.length) :
    ∃ b off : Nat, A = some ⟨b, off, none⟩ ∧ b < B ∧ w.cell? ⟨b, off + k * 3, none⟩ = some (.int .i64 hs[k].1) ∧ w.cell? ⟨b, off + k * 3 + 1, none⟩ = some (.int .i64 hs[k].2.1) ∧ w.cell? ⟨b, off + k * 3 + 2, none⟩ = some (.int .i64 hs[k].2.2) := by
  rcases h with h | ⟨b, off, e, hlt, hc⟩
  · subst h; simp at hk
  · exact ⟨b, off, e, hlt, hc k _ (List.getElem?_eq_getElem hk)⟩

/-- Are two half planes the same? -/
def eqH (a b c a' b' c' : Int) : Bool := a == a' && b == b' && c == c'

set_option maxHeartbeats 400000 in
theorem eqHalf_any (a b c a' b' c' : Int) (w : World) :
    Calls Try.prog 43 #[.agg #[.int .i64 a, .int .i64 b, .int .i64 c], .agg #[.int .i64 a', .int .i64 b', .int .i64 c']] w fun e w' => e = .returned (.bool (eqH a b c a' b' c')) ∧ Below w.heap.size w w' := by
  by_cases h1 : a = a'
  · by_cases h2 : b = b'
    · by_cases h3 : c = c'
      · subst h1 h2 h3
        go_enter Try.func43, Try.ntmps43
        go_wp2
        go_ret
        exact ⟨ret_bool (by simp [eqH]), (by repeat (first | exact Below.refl _ _ | assumption | refine below_drewN ?_ _ | refine Below.drew ?_ | refine Below.alloc ?_ (by first | omega | (simp <;> omega)) _ | refine Below.setCell ?_ (by first | omega | (simp <;> omega)) _))⟩
      · subst h1 h2
        go_enter Try.func43, Try.ntmps43
        go_wp2
        go_ret
        exact ⟨ret_bool (by simp [eqH, h3]), (by repeat (first | exact Below.refl _ _ | assumption | refine below_drewN ?_ _ | refine Below.drew ?_ | refine Below.alloc ?_ (by first | omega | (simp <;> omega)) _ | refine Below.setCell ?_ (by first | omega | (simp <;> omega)) _))⟩
    · subst h1
      go_enter Try.func43, Try.ntmps43
      go_wp2
      go_ret
      exact ⟨ret_bool (by simp [eqH, h2]), (by repeat (first | exact Below.refl _ _ | assumption | refine below_drewN ?_ _ | refine Below.drew ?_ | refine Below.alloc ?_ (by first | omega | (simp <;> omega)) _ | refine Below.setCell ?_ (by first | omega | (simp <;> omega)) _))⟩
  · go_enter Try.func43, Try.ntmps43
    go_wp2
    go_ret
    exact ⟨ret_bool (by simp [eqH, h1]), (by repeat (first | exact Below.refl _ _ | assumption | refine below_drewN ?_ _ | refine Below.drew ?_ | refine Below.alloc ?_ (by first | omega | (simp <;> omega)) _ | refine Below.setCell ?_ (by first | omega | (simp <;> omega)) _))⟩

theorem eqHalf_lit {a b c a' b' c' : Int} {v : Bool} (h : eqH a b c a' b' c' = v) (w : World) :
    Calls Try.prog 43 #[.agg #[.int .i64 a, .int .i64 b, .int .i64 c], .agg #[.int .i64 a', .int .i64 b', .int .i64 c']] w fun e w' => e = .returned (.bool v) ∧ Below w.heap.size w w' := by
  rw [← h]; exact eqHalf_any a b c a' b' c' w

theorem eqH_iff {x y : Hp} : eqH x.1 x.2.1 x.2.2 y.1 y.2.1 y.2.2 = true ↔ x = y := by
  unfold eqH
  simp only [Bool.and_eq_true, beq_iff_eq]
  constructor
  · rintro ⟨⟨h1, h2⟩, h3⟩; exact Prod.ext h1 (Prod.ext h2 h3)
  · rintro rfl; exact ⟨⟨rfl, rfl⟩, rfl⟩

theorem take_step {α : Type} {l m : List α} {k : Nat} (h : l.take k = m.take k) (hk : k < l.length) (hk' : k < m.length) (he : l[k] = m[k]) : l.take (k + 1) = m.take (k + 1) := by
  rw [List.take_succ_eq_append_getElem hk, List.take_succ_eq_append_getElem hk', h, he]

set_option maxHeartbeats 1000000 in
theorem eqHalfS_any (A A' : Option Addr) (n n' c c' : Nat) (hs hs' : List Hp) (w : World) (hn : n = hs.length) (hn' : n' = hs'.length) (hA : HsAt w w.heap.size A hs) (hA' : HsAt w w.heap.size A' hs') (hm : n ≤ 4611686018427387904) (hm' : n' ≤ 4611686018427387904) :
    Calls Try.prog 14 #[.slice A n c, .slice A' n' c'] w fun e w' => e = .returned (.bool (decide (hs = hs'))) ∧ Below w.heap.size w w' := by
  have HA := Lib.hid hA; clear hA
  have HA' := Lib.hid hA'; clear hA'
  by_cases he : n = n'
  · subst he
    have HN := Lib.hid hn; clear hn
    have HN' := Lib.hid hn'; clear hn'
    go_enter Try.func14, Try.ntmps14
    go_wp2
    go_loopw [5] (fun i wr => ∃ k : Nat, k ≤ n ∧ i = .int .i64 k ∧ RowKit.Hid (hs.take k = hs'.take k) ∧ Below w.heap.size w wr) (fun i _ => n - (intOf i).toNat)
    case atStart => exact ⟨0, Nat.zero_le _, rfl, rfl, Below.refl _ _⟩
    case round =>
      obtain ⟨k, hk, rfl, HE, hb⟩ := hrel
      by_cases hlt : k < n
      · have hl1 : k < hs.length := by have := HN.out; omega
        have hl2 : k < hs'.length := by have := HN'.out; omega
        obtain ⟨b, off, rfl, hlb, c0, c1, c2⟩ := (HA.out.below hb).at_ hl1
        obtain ⟨b', off', rfl, hlb', d0, d1, d2⟩ := (HA'.out.below hb).at_ hl2
        have hz := hb.size
        have hx : hs[k] = hs'[k] → RowKit.Hid (hs.take (k + 1) = hs'.take (k + 1)) := fun e => take_step HE.out hl1 hl2 e
        have hy : ¬ hs[k] = hs'[k] → RowKit.Hid (decide (hs = hs') = false) := fun e => by
          refine decide_eq_false (fun h => e ?_); subst h; rfl
        generalize hs[k] = x at *
        generalize hs'[k] = y at *
        obtain ⟨x0, x1, x2⟩ := x
        obtain ⟨y0, y1, y2⟩ := y
        simp only at c0 c1 c2 d0 d1 d2
        have hi := @eqH_iff (x0, x1, x2) (y0, y1, y2)
        simp only at hi
        cases hv : eqH x0 x1 x2 y0 y1 y2
        · have HF := hy (fun e => by rw [hi.2 e] at hv; cases hv)
          have HV := Lib.hid hv
          clear hx hy hi hv
          go_wp2_with fail
          first
            | (go_region_held3 (fun w' => (Below w.heap.size w w' ∧ w.heap.size ≤ w'.heap.size) ∧ w'.cell? ⟨b, (off+k*3), none⟩ = some (.int .i64 x0) ∧ w'.cell? ⟨b, (off+k*3+1), none⟩ = some (.int .i64 x1) ∧ w'.cell? ⟨b, (off+k*3+2), none⟩ = some (.int .i64 x2) ∧ w'.cell? ⟨b', (off'+k*3), none⟩ = some (.int .i64 y0) ∧ w'.cell? ⟨b', (off'+k*3+1), none⟩ = some (.int .i64 y1) ∧ w'.cell? ⟨b', (off'+k*3+2), none⟩ = some (.int .i64 y2) ∧ b < w'.heap.size ∧ b' < w'.heap.size) (first | (go_split_ands; refine ⟨⟨?_, ?_⟩, ?_, ?_, ?_, ?_, ?_, ?_, ?_, ?_⟩ <;> first | (with_reducible assumption) | ((with_reducible refine cell_keep hb1 ?_ ?_); (focus first | (with_reducible assumption) | (go_keep; done) | (go_simp; done) | (simp; done)); (focus first | omega | (simp <;> omega))) | ((with_reducible refine frozen_keep hb1 ?_ ?_); (focus first | (with_reducible assumption) | (go_keep; done) | (go_simp; done) | (simp; done)); (focus first | omega | (simp <;> omega))) | ((with_reducible refine S_size hb1 ?_); (focus first | omega | (simp <;> omega))) | ((with_reducible refine S_lt hb1 ?_); (focus first | omega | (simp <;> omega))) | ((with_reducible refine S_below hb1 ?_ ?_); (focus ((repeat (first | (with_reducible exact Below.refl _ _) | (with_reducible assumption) | (with_reducible refine below_drewN ?_ _) | (with_reducible refine Below.drew ?_) | ((with_reducible refine Below.alloc ?_ ?_ _); rotate_left; (focus first | omega | (simp <;> omega))) | ((with_reducible refine Below.setCell ?_ ?_ _); rotate_left; (focus first | omega | (simp <;> omega))))); done)); (focus first | omega | (simp <;> omega))) | ((with_reducible apply S_realloc2); (focus (with_reducible assumption)); (focus (with_reducible assumption)); (focus omega)) | (with_reducible show Below _ _ _; (repeat (first | (with_reducible exact Below.refl _ _) | (with_reducible assumption) | (with_reducible refine below_drewN ?_ _) | (with_reducible refine Below.drew ?_) | ((with_reducible refine Below.alloc ?_ ?_ _); rotate_left; (focus first | omega | (simp <;> omega))) | ((with_reducible refine Below.setCell ?_ ?_ _); rotate_left; (focus first | omega | (simp <;> omega))))); done) | (go_keep; done) | omega | (simp <;> omega) | (go_simp; done)))
                (first | (go_at_call 43; with_reducible refine (eqHalf_lit HV.out _).mono ?_; rintro e w1 ⟨rfl, hb1⟩)))
            | fail "held"
          go_split_ands
          go_wp2_with fail
          go_ret
          exact ⟨ret_bool HF.out.symm, (by repeat (first | exact Below.refl _ _ | assumption | refine below_drewN ?_ _ | refine Below.drew ?_ | refine Below.alloc ?_ (by first | omega | (simp <;> omega)) _ | refine Below.setCell ?_ (by first | omega | (simp <;> omega)) _))⟩
        · have HF := hx (hi.1 hv)
          have HV := Lib.hid hv
          clear hx hy hi hv
          go_wp2_with fail
          first
            | (go_region_held3 (fun w' => (Below w.heap.size w w' ∧ w.heap.size ≤ w'.heap.size) ∧ w'.cell? ⟨b, (off+k*3), none⟩ = some (.int .i64 x0) ∧ w'.cell? ⟨b, (off+k*3+1), none⟩ = some (.int .i64 x1) ∧ w'.cell? ⟨b, (off+k*3+2), none⟩ = some (.int .i64 x2) ∧ w'.cell? ⟨b', (off'+k*3), none⟩ = some (.int .i64 y0) ∧ w'.cell? ⟨b', (off'+k*3+1), none⟩ = some (.int .i64 y1) ∧ w'.cell? ⟨b', (off'+k*3+2), none⟩ = some (.int .i64 y2) ∧ b < w'.heap.size ∧ b' < w'.heap.size) (first | (go_split_ands; refine ⟨⟨?_, ?_⟩, ?_, ?_, ?_, ?_, ?_, ?_, ?_, ?_⟩ <;> first | (with_reducible assumption) | ((with_reducible refine cell_keep hb1 ?_ ?_); (focus first | (with_reducible assumption) | (go_keep; done) | (go_simp; done) | (simp; done)); (focus first | omega | (simp <;> omega))) | ((with_reducible refine frozen_keep hb1 ?_ ?_); (focus first | (with_reducible assumption) | (go_keep; done) | (go_simp; done) | (simp; done)); (focus first | omega | (simp <;> omega))) | ((with_reducible refine S_size hb1 ?_); (focus first | omega | (simp <;> omega))) | ((with_reducible refine S_lt hb1 ?_); (focus first | omega | (simp <;> omega))) | ((with_reducible refine S_below hb1 ?_ ?_); (focus ((repeat (first | (with_reducible exact Below.refl _ _) | (with_reducible assumption) | (with_reducible refine below_drewN ?_ _) | (with_reducible refine Below.drew ?_) | ((with_reducible refine Below.alloc ?_ ?_ _); rotate_left; (focus first | omega | (simp <;> omega))) | ((with_reducible refine Below.setCell ?_ ?_ _); rotate_left; (focus first | omega | (simp <;> omega))))); done)); (focus first | omega | (simp <;> omega))) | ((with_reducible apply S_realloc2); (focus (with_reducible assumption)); (focus (with_reducible assumption)); (focus omega)) | (with_reducible show Below _ _ _; (repeat (first | (with_reducible exact Below.refl _ _) | (with_reducible assumption) | (with_reducible refine below_drewN ?_ _) | (with_reducible refine Below.drew ?_) | ((with_reducible refine Below.alloc ?_ ?_ _); rotate_left; (focus first | omega | (simp <;> omega))) | ((with_reducible refine Below.setCell ?_ ?_ _); rotate_left; (focus first | omega | (simp <;> omega))))); done) | (go_keep; done) | omega | (simp <;> omega) | (go_simp; done)))
                (first | (go_at_call 43; with_reducible refine (eqHalf_lit HV.out _).mono ?_; rintro e w1 ⟨rfl, hb1⟩)))
            | fail "held"
          go_split_ands
          go_wp2_with fail
          go_roundw
          case rel => exact ⟨k + 1, by omega, by go_num, HF, (by repeat (first | exact Below.refl _ _ | assumption | refine below_drewN ?_ _ | refine Below.drew ?_ | refine Below.alloc ?_ (by first | omega | (simp <;> omega)) _ | refine Below.setCell ?_ (by first | omega | (simp <;> omega)) _))⟩
          case measure => simp [intOf]; omega
      · have HF := Lib.hid (show decide (hs = hs') = true by
          refine decide_eq_true ?_
          have e := HE.out
          rwa [List.take_of_length_le (by have := HN.out; omega), List.take_of_length_le (by have := HN'.out; omega)] at e)
        go_wp2_with fail
        go_ret
        exact ⟨ret_bool HF.out.symm, hb⟩
  · have HF := Lib.hid (show decide (hs = hs') = false by
      refine decide_eq_false (fun h => he ?_); subst h; omega)
    clear hn hn'
    go_enter Try.func14, Try.ntmps14
    go_wp2
    go_ret
    exact ⟨ret_bool HF.out.symm, (by repeat (first | exact Below.refl _ _ | assumption | refine below_drewN ?_ _ | refine Below.drew ?_ | refine Below.alloc ?_ (by first | omega | (simp <;> omega)) _ | refine Below.setCell ?_ (by first | omega | (simp <;> omega)) _))⟩

end Go.Proofs.Ythdaoadleeelnaa
