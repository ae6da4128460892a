/- Slices of half planes in memory: what each helper of the laws does with them. Slices of half planes that a call itself made: read, marked, held. -/
import Derived.Test.YthdaoadleeelnaaNum
import Derived.Test.YthdaoadleeelnaaPlane
namespace Go.Proofs.Ythdaoadleeelnaa
open Go.ChangeShapes Go.WideShapes Go.ChangeAt Go.RowKit
attribute [local go_sem ↓] Go.wp_at_zero Go.wp_at_succ
set_option linter.unusedVariables false

/-- A slice's elements are these half planes; it lies below block B. -/
def HsAt (w : World) (B : Nat) (A : Option Addr) (hs : List Hp) : Prop :=
  hs = [] ∨ ∃ b off : Nat, A = some ⟨b, off, none⟩ ∧ b < B ∧ ∀ (k : Nat) (h : Hp), hs[k]? = some h →
    w.cell? ⟨b, off + k * 3, none⟩ = some (.int .i64 h.1) ∧ w.cell? ⟨b, off + k * 3 + 1, none⟩ = some (.int .i64 h.2.1) ∧ w.cell? ⟨b, off + k * 3 + 2, none⟩ = some (.int .i64 h.2.2)

theorem HsAt.below {w w' : World} {B : Nat} {A : Option Addr} {hs : List Hp} (h : HsAt w B A hs) (hb : Below B w w') : HsAt w' B A hs := by
  rcases h with h | ⟨b, off, e, hlt, hc⟩
  · exact .inl h
  · refine .inr ⟨b, off, e, hlt, fun k x hx => ?_⟩
    obtain ⟨h1, h2, h3⟩ := hc k x hx
    exact ⟨(hb.cell (p := ⟨b, _, none⟩) hlt).trans h1, (hb.cell (p := ⟨b, _, none⟩) hlt).trans h2, (hb.cell (p := ⟨b, _, none⟩) hlt).trans h3⟩

theorem HsAt.more {w : World} {B B' : Nat} {A : Option Addr} {hs : List Hp} (h : HsAt w B A hs) (hB : B ≤ B') : HsAt w B' A hs := by
  rcases h with h | ⟨b, off, e, hlt, hc⟩
  · exact .inl h
  · exact .inr ⟨b, off, e, by omega, hc⟩
/-- What a step of a loop reads. -/
theorem HsAt.at_ {w : World} {B : Nat} {A : Option Addr} {hs : List Hp} (h : HsAt w B A hs) {k : Nat} (hk : k < hs.length) :
    ∃ b off : Nat, A = some ⟨b, off, none⟩ ∧ b < B ∧ w.cell? ⟨b, off + k * 3, none⟩ = some (.int .i64 hs[k].1) ∧ w.cell? ⟨b, off + k * 3 + 1, none⟩ = some (.int .i64 hs[k].2.1) ∧ w.cell? ⟨b, off + k * 3 + 2, none⟩ = some (.int .i64 hs[k].2.2) := by
  rcases h with h | ⟨b, off, e, hlt, hc⟩
  · subst h; simp at hk
  · exact ⟨b, off, e, hlt, hc k _ (List.getElem?_eq_getElem hk)⟩

/-- Are two half planes the same? -/
def eqH (a b c a' b' c' : Int) : Bool := a == a' && b == b' && c == c'

set_option maxHeartbeats 400000 in
set_option maxRecDepth 100000 in
theorem eqHalf_any (a b c a' b' c' : Int) (w : World) :
    Calls Try.prog 43 #[.agg #[.int .i64 a, .int .i64 b, .int .i64 c], .agg #[.int .i64 a', .int .i64 b', .int .i64 c']] w fun e w' => e = .returned (.bool (eqH a b c a' b' c')) ∧ Below w.heap.size w w' := by
  by_cases h1 : a = a'
  · by_cases h2 : b = b'
    · by_cases h3 : c = c'
      · subst h1 h2 h3
        go_enter Try.func43, Try.ntmps43
        go_wp2
        go_ret
        exact ⟨ret_bool (by simp [eqH]), (by repeat (first | exact Below.refl _ _ | assumption | refine below_drewN ?_ _ | refine Below.drew ?_ | refine Below.alloc ?_ (by first | omega | (simp <;> omega)) _ | refine Below.setCell ?_ (by first | omega | (simp <;> omega)) _))⟩
      · subst h1 h2
        go_enter Try.func43, Try.ntmps43
        go_wp2
        go_ret
        exact ⟨ret_bool (by simp [eqH, h3]), (by repeat (first | exact Below.refl _ _ | assumption | refine below_drewN ?_ _ | refine Below.drew ?_ | refine Below.alloc ?_ (by first | omega | (simp <;> omega)) _ | refine Below.setCell ?_ (by first | omega | (simp <;> omega)) _))⟩
    · subst h1
      go_enter Try.func43, Try.ntmps43
      go_wp2
      go_ret
      exact ⟨ret_bool (by simp [eqH, h2]), (by repeat (first | exact Below.refl _ _ | assumption | refine below_drewN ?_ _ | refine Below.drew ?_ | refine Below.alloc ?_ (by first | omega | (simp <;> omega)) _ | refine Below.setCell ?_ (by first | omega | (simp <;> omega)) _))⟩
  · go_enter Try.func43, Try.ntmps43
    go_wp2
    go_ret
    exact ⟨ret_bool (by simp [eqH, h1]), (by repeat (first | exact Below.refl _ _ | assumption | refine below_drewN ?_ _ | refine Below.drew ?_ | refine Below.alloc ?_ (by first | omega | (simp <;> omega)) _ | refine Below.setCell ?_ (by first | omega | (simp <;> omega)) _))⟩

theorem eqHalf_lit {a b c a' b' c' : Int} {v : Bool} (h : eqH a b c a' b' c' = v) (w : World) :
    Calls Try.prog 43 #[.agg #[.int .i64 a, .int .i64 b, .int .i64 c], .agg #[.int .i64 a', .int .i64 b', .int .i64 c']] w fun e w' => e = .returned (.bool v) ∧ Below w.heap.size w w' := by
  rw [← h]; exact eqHalf_any a b c a' b' c' w

theorem eqH_iff {x y : Hp} : eqH x.1 x.2.1 x.2.2 y.1 y.2.1 y.2.2 = true ↔ x = y := by
  unfold eqH
  simp only [Bool.and_eq_true, beq_iff_eq]
  constructor
  · rintro ⟨⟨h1, h2⟩, h3⟩; exact Prod.ext h1 (Prod.ext h2 h3)
  · rintro rfl; exact ⟨⟨rfl, rfl⟩, rfl⟩

theorem take_step {α : Type} {l m : List α} {k : Nat} (h : l.take k = m.take k) (hk : k < l.length) (hk' : k < m.length) (he : l[k] = m[k]) : l.take (k + 1) = m.take (k + 1) := by
  rw [List.take_succ_eq_append_getElem hk, List.take_succ_eq_append_getElem hk', h, he]

set_option maxHeartbeats 1000000 in
set_option maxRecDepth 100000 in
theorem eqHalfS_any (A A' : Option Addr) (n n' c c' : Nat) (hs hs' : List Hp) (w : World) (hn : n = hs.length) (hn' : n' = hs'.length) (hA : HsAt w w.heap.size A hs) (hA' : HsAt w w.heap.size A' hs') (hm : n ≤ 4611686018427387904) (hm' : n' ≤ 4611686018427387904) :
    Calls Try.prog 14 #[.slice A n c, .slice A' n' c'] w fun e w' => e = .returned (.bool (decide (hs = hs'))) ∧ Below w.heap.size w w' := by
  have HA := Lib.hid hA; clear hA
  have HA' := Lib.hid hA'; clear hA'
  by_cases he : n = n'
  · subst he
    have HN := Lib.hid hn; clear hn
    have HN' := Lib.hid hn'; clear hn'
    go_enter Try.func14, Try.ntmps14
    go_wp2
    go_loopw [5] (fun i wr => ∃ k : Nat, k ≤ n ∧ i = .int .i64 k ∧ RowKit.Hid (hs.take k = hs'.take k) ∧ Below w.heap.size w wr) (fun i _ => n - (intOf i).toNat)
    case atStart => exact ⟨0, Nat.zero_le _, rfl, rfl, Below.refl _ _⟩
    case round =>
      obtain ⟨k, hk, rfl, HE, hb⟩ := hrel
      by_cases hlt : k < n
      · have hl1 : k < hs.length := by have := HN.out; omega
        have hl2 : k < hs'.length := by have := HN'.out; omega
        obtain ⟨b, off, rfl, hlb, c0, c1, c2⟩ := (HA.out.below hb).at_ hl1
        obtain ⟨b', off', rfl, hlb', d0, d1, d2⟩ := (HA'.out.below hb).at_ hl2
        have hz := hb.size
        have hx : hs[k] = hs'[k] → RowKit.Hid (hs.take (k + 1) = hs'.take (k + 1)) := fun e => take_step HE.out hl1 hl2 e
        have hy : ¬ hs[k] = hs'[k] → RowKit.Hid (decide (hs = hs') = false) := fun e => by
          refine decide_eq_false (fun h => e ?_); subst h; rfl
        generalize hs[k] = x at *
        generalize hs'[k] = y at *
        obtain ⟨x0, x1, x2⟩ := x
        obtain ⟨y0, y1, y2⟩ := y
        simp only at c0 c1 c2 d0 d1 d2
        have hi := @eqH_iff (x0, x1, x2) (y0, y1, y2)
        simp only at hi
        cases hv : eqH x0 x1 x2 y0 y1 y2
        · have HF := hy (fun e => by rw [hi.2 e] at hv; cases hv)
          have HV := Lib.hid hv
          clear hx hy hi hv
          go_wp2_with fail
          first
            | (go_region_held3 (fun w' => (Below w.heap.size w w' ∧ w.heap.size ≤ w'.heap.size) ∧ w'.cell? ⟨b, (off+k*3), none⟩ = some (.int .i64 x0) ∧ w'.cell? ⟨b, (off+k*3+1), none⟩ = some (.int .i64 x1) ∧ w'.cell? ⟨b, (off+k*3+2), none⟩ = some (.int .i64 x2) ∧ w'.cell? ⟨b', (off'+k*3), none⟩ = some (.int .i64 y0) ∧ w'.cell? ⟨b', (off'+k*3+1), none⟩ = some (.int .i64 y1) ∧ w'.cell? ⟨b', (off'+k*3+2), none⟩ = some (.int .i64 y2) ∧ b < w'.heap.size ∧ b' < w'.heap.size) (first | (go_split_ands; refine ⟨⟨?_, ?_⟩, ?_, ?_, ?_, ?_, ?_, ?_, ?_, ?_⟩ <;> first | (with_reducible assumption) | ((with_reducible refine cell_keep hb1 ?_ ?_); (focus first | (with_reducible assumption) | (go_keep; done) | (go_simp; done) | (simp; done)); (focus first | omega | (simp <;> omega))) | ((with_reducible refine frozen_keep hb1 ?_ ?_); (focus first | (with_reducible assumption) | (go_keep; done) | (go_simp; done) | (simp; done)); (focus first | omega | (simp <;> omega))) | ((with_reducible refine S_size hb1 ?_); (focus first | omega | (simp <;> omega))) | ((with_reducible refine S_lt hb1 ?_); (focus first | omega | (simp <;> omega))) | ((with_reducible refine S_below hb1 ?_ ?_); (focus ((repeat (first | (with_reducible exact Below.refl _ _) | (with_reducible assumption) | (with_reducible refine below_drewN ?_ _) | (with_reducible refine Below.drew ?_) | ((with_reducible refine Below.alloc ?_ ?_ _); rotate_left; (focus first | omega | (simp <;> omega))) | ((with_reducible refine Below.setCell ?_ ?_ _); rotate_left; (focus first | omega | (simp <;> omega))))); done)); (focus first | omega | (simp <;> omega))) | ((with_reducible apply S_realloc2); (focus (with_reducible assumption)); (focus (with_reducible assumption)); (focus omega)) | (with_reducible show Below _ _ _; (repeat (first | (with_reducible exact Below.refl _ _) | (with_reducible assumption) | (with_reducible refine below_drewN ?_ _) | (with_reducible refine Below.drew ?_) | ((with_reducible refine Below.alloc ?_ ?_ _); rotate_left; (focus first | omega | (simp <;> omega))) | ((with_reducible refine Below.setCell ?_ ?_ _); rotate_left; (focus first | omega | (simp <;> omega))))); done) | (go_keep; done) | omega | (simp <;> omega) | (go_simp; done)))
                (first | (go_at_call 43; with_reducible refine (eqHalf_lit HV.out _).mono ?_; rintro e w1 ⟨rfl, hb1⟩)))
            | fail "held"
          go_split_ands
          go_wp2_with fail
          go_ret
          exact ⟨ret_bool HF.out.symm, (by repeat (first | exact Below.refl _ _ | assumption | refine below_drewN ?_ _ | refine Below.drew ?_ | refine Below.alloc ?_ (by first | omega | (simp <;> omega)) _ | refine Below.setCell ?_ (by first | omega | (simp <;> omega)) _))⟩
        · have HF := hx (hi.1 hv)
          have HV := Lib.hid hv
          clear hx hy hi hv
          go_wp2_with fail
          first
            | (go_region_held3 (fun w' => (Below w.heap.size w w' ∧ w.heap.size ≤ w'.heap.size) ∧ w'.cell? ⟨b, (off+k*3), none⟩ = some (.int .i64 x0) ∧ w'.cell? ⟨b, (off+k*3+1), none⟩ = some (.int .i64 x1) ∧ w'.cell? ⟨b, (off+k*3+2), none⟩ = some (.int .i64 x2) ∧ w'.cell? ⟨b', (off'+k*3), none⟩ = some (.int .i64 y0) ∧ w'.cell? ⟨b', (off'+k*3+1), none⟩ = some (.int .i64 y1) ∧ w'.cell? ⟨b', (off'+k*3+2), none⟩ = some (.int .i64 y2) ∧ b < w'.heap.size ∧ b' < w'.heap.size) (first | (go_split_ands; refine ⟨⟨?_, ?_⟩, ?_, ?_, ?_, ?_, ?_, ?_, ?_, ?_⟩ <;> first | (with_reducible assumption) | ((with_reducible refine cell_keep hb1 ?_ ?_); (focus first | (with_reducible assumption) | (go_keep; done) | (go_simp; done) | (simp; done)); (focus first | omega | (simp <;> omega))) | ((with_reducible refine frozen_keep hb1 ?_ ?_); (focus first | (with_reducible assumption) | (go_keep; done) | (go_simp; done) | (simp; done)); (focus first | omega | (simp <;> omega))) | ((with_reducible refine S_size hb1 ?_); (focus first | omega | (simp <;> omega))) | ((with_reducible refine S_lt hb1 ?_); (focus first | omega | (simp <;> omega))) | ((with_reducible refine S_below hb1 ?_ ?_); (focus ((repeat (first | (with_reducible exact Below.refl _ _) | (with_reducible assumption) | (with_reducible refine below_drewN ?_ _) | (with_reducible refine Below.drew ?_) | ((with_reducible refine Below.alloc ?_ ?_ _); rotate_left; (focus first | omega | (simp <;> omega))) | ((with_reducible refine Below.setCell ?_ ?_ _); rotate_left; (focus first | omega | (simp <;> omega))))); done)); (focus first | omega | (simp <;> omega))) | ((with_reducible apply S_realloc2); (focus (with_reducible assumption)); (focus (with_reducible assumption)); (focus omega)) | (with_reducible show Below _ _ _; (repeat (first | (with_reducible exact Below.refl _ _) | (with_reducible assumption) | (with_reducible refine below_drewN ?_ _) | (with_reducible refine Below.drew ?_) | ((with_reducible refine Below.alloc ?_ ?_ _); rotate_left; (focus first | omega | (simp <;> omega))) | ((with_reducible refine Below.setCell ?_ ?_ _); rotate_left; (focus first | omega | (simp <;> omega))))); done) | (go_keep; done) | omega | (simp <;> omega) | (go_simp; done)))
                (first | (go_at_call 43; with_reducible refine (eqHalf_lit HV.out _).mono ?_; rintro e w1 ⟨rfl, hb1⟩)))
            | fail "held"
          go_split_ands
          go_wp2_with fail
          go_roundw
          case rel => exact ⟨k + 1, by omega, by go_num, HF, (by repeat (first | exact Below.refl _ _ | assumption | refine below_drewN ?_ _ | refine Below.drew ?_ | refine Below.alloc ?_ (by first | omega | (simp <;> omega)) _ | refine Below.setCell ?_ (by first | omega | (simp <;> omega)) _))⟩
          case measure => simp [intOf]; omega
      · have HF := Lib.hid (show decide (hs = hs') = true by
          refine decide_eq_true ?_
          have e := HE.out
          rwa [List.take_of_length_le (by have := HN.out; omega), List.take_of_length_le (by have := HN'.out; omega)] at e)
        go_wp2_with fail
        go_ret
        exact ⟨ret_bool HF.out.symm, hb⟩
  · have HF := Lib.hid (show decide (hs = hs') = false by
      refine decide_eq_false (fun h => he ?_); subst h; omega)
    clear hn hn'
    go_enter Try.func14, Try.ntmps14
    go_wp2
    go_ret
    exact ⟨ret_bool HF.out.symm, (by repeat (first | exact Below.refl _ _ | assumption | refine below_drewN ?_ _ | refine Below.drew ?_ | refine Below.alloc ?_ (by first | omega | (simp <;> omega)) _ | refine Below.setCell ?_ (by first | omega | (simp <;> omega)) _))⟩

def flatH (hs : List Hp) : List Value := hs.flatMap fun h => [.int .i64 h.1, .int .i64 h.2.1, .int .i64 h.2.2]

theorem flatH_cons (h : Hp) (hs : List Hp) : flatH (h :: hs) = .int .i64 h.1 :: .int .i64 h.2.1 :: .int .i64 h.2.2 :: flatH hs := rfl

theorem flatH_len (hs : List Hp) : (flatH hs).length = hs.length * 3 := by
  induction hs with
  | nil => rfl
  | cons h hs ih => rw [flatH_cons]; simp only [List.length_cons, ih]; omega

theorem flatH_get : ∀ (hs : List Hp) (k : Nat) (h : Hp), hs[k]? = some h → (flatH hs)[k * 3]? = some (.int .i64 h.1) ∧ (flatH hs)[k * 3 + 1]? = some (.int .i64 h.2.1) ∧ (flatH hs)[k * 3 + 2]? = some (.int .i64 h.2.2)
  | [], k, h, e => by simp at e
  | x :: hs, 0, h, e => by simp at e; subst e; rw [flatH_cons]; exact ⟨rfl, rfl, rfl⟩
  | x :: hs, k + 1, h, e => by
    have := flatH_get hs k h (by simpa using e)
    rw [flatH_cons, show (k + 1) * 3 = k * 3 + 3 by omega]
    exact this

theorem flatH_set : ∀ (hs : List Hp) (k : Nat) (h : Hp) (a b c : Int), hs[k]? = some h → (((flatH hs).set (k * 3) (.int .i64 a)).set (k * 3 + 1) (.int .i64 b)).set (k * 3 + 2) (.int .i64 c) = flatH (hs.set k (a, b, c))
  | [], k, h, a, b, c, e => by simp at e
  | x :: hs, 0, h, a, b, c, e => by simp [flatH_cons]
  | x :: hs, k + 1, h, a, b, c, e => by
    have := flatH_set hs k h a b c (by simpa using e)
    rw [flatH_cons, show (k + 1) * 3 = k * 3 + 3 by omega]
    simp only [List.set_cons_succ, flatH_cons]
    rw [this]

/-- A slice of half planes that the call itself made. -/
def OwnH (w : World) (B : Nat) (v : Value) (hs : List Hp) : Prop := w.ownsRow B 57 3 v hs.length (flatH hs)

theorem OwnH.shape {w : World} {B : Nat} {v : Value} {hs : List Hp} (h : OwnH w B v hs) : (v = .slice none 0 0 ∧ hs = []) ∨ ∃ g cap, v = .slice (some ⟨g, 0, none⟩) hs.length cap ∧ B ≤ g ∧ g < w.heap.size ∧ hs.length ≤ cap := by
  rcases h.2 with ⟨rfl, e⟩ | ⟨g, cap, cur, rfl, hb, hg, hn, hm, hs', ht⟩
  · left
    exact ⟨rfl, List.eq_nil_of_length_eq_zero e⟩
  · exact .inr ⟨g, cap, rfl, hb, (Array.getElem?_eq_some_iff.1 hg).1, hn⟩

theorem OwnH.reads {w : World} {B : Nat} {A : Option Addr} {n c : Nat} {hs : List Hp} (h : OwnH w B (.slice A n c) hs) : n = hs.length ∧ HsAt w w.heap.size A hs := by
  rcases h.shape with ⟨e, e'⟩ | ⟨g, cap, e, hb, hlt, hn⟩
  · subst e'; injection e with e1 e2 e3; subst e2; exact ⟨rfl, .inl rfl⟩
  · injection e with e1 e2 e3
    subst e1 e2 e3
    refine ⟨rfl, .inr ⟨g, 0, rfl, hlt, fun k x hx => ?_⟩⟩
    have hk : k < hs.length := by
      rcases Nat.lt_or_ge k hs.length with h' | h'
      · exact h'
      · rw [List.getElem?_eq_none h'] at hx; cases hx
    obtain ⟨f1, f2, f3⟩ := flatH_get hs k x hx
    unfold OwnH at h
    rw [Nat.zero_add]
    exact ⟨(h.cellAt _ (by omega)).trans f1, (h.cellAt _ (by omega)).trans f2, (h.cellAt _ (by omega)).trans f3⟩

theorem OwnH.kept {w w' : World} {B : Nat} {v : Value} {hs : List Hp} (h : OwnH w B v hs) (hb : Below w.heap.size w w') : OwnH w' B v hs :=
  World.ownsRow.kept h (row := none) ⟨hb.os, hb.tape, hb.output, hb.size, fun k hk _ => hb.block k hk⟩ (by cases v.ownBlock <;> simp)

theorem OwnH.keptBut {w w' : World} {B : Nat} {v : Value} {hs : List Hp} {g : Nat} (h : OwnH w B v hs) (hb : w.grownBy w' (some g)) (hne : v.ownBlock ≠ some g) : OwnH w' B v hs := World.ownsRow.kept h hb (.inr hne)

theorem OwnH.drew {w : World} {B : Nat} {v : Value} {hs : List Hp} (h : OwnH w B v hs) : OwnH w.drew B v hs := h

theorem frame_flat : flatH frameL = [.int .i64 1, .int .i64 0, .int .i64 1000, .int .i64 0, .int .i64 1, .int .i64 1000, .int .i64 (-1), .int .i64 0, .int .i64 1000, .int .i64 0, .int .i64 (-1), .int .i64 1000] := rfl

def MadeH (hs : List Hp) (w : World) (e : Ending) (w' : World) : Prop := ∃ g c, e = .returned (.slice (some ⟨g, 0, none⟩) hs.length c) ∧ OwnH w' w.heap.size (.slice (some ⟨g, 0, none⟩) hs.length c) hs ∧ w.heap.size ≤ g ∧ Below w.heap.size w w'

theorem frame_made (w : World) : MadeH frameL w (.returned (.slice (some ⟨w.heap.size, 0, none⟩) 4 4)) (w.alloc (.cells #[.int .i64 1, .int .i64 0, .int .i64 1000, .int .i64 0, .int .i64 1, .int .i64 1000, .int .i64 (-1), .int .i64 0, .int .i64 1000, .int .i64 0, .int .i64 (-1), .int .i64 1000] 57)) :=
  ⟨_, 4, rfl, World.ownsRow_lit w _ 4 (Nat.le_refl _) (by unfold maxLen; omega) rfl, Nat.le_refl _, (Below.refl _ _).alloc (Nat.le_refl _) _⟩

set_option maxHeartbeats 400000 in
set_option maxRecDepth 100000 in
theorem iFrameHalves_any (w : World) : Calls Try.prog 13 #[] w (MadeH frameL w) := by
  go_enter Try.func13, Try.ntmps13
  go_wp2
  go_ret
  exact frame_made w
set_option maxHeartbeats 400000 in
set_option maxRecDepth 100000 in
theorem sFrameHalves_any (w : World) : Calls Try.prog 12 #[] w (MadeH frameL w) := by
  go_enter Try.func12, Try.ntmps12
  go_wp2
  go_ret
  exact frame_made w

def MarkedTo (hs : List Hp) (m : Int) (k : Nat) : Prop := ∀ j, j < k → hs[j]? = some (m + 3 * j, m + 3 * j + 1, m + 3 * j + 1 + 1)

set_option maxHeartbeats 1000000 in
set_option maxRecDepth 100000 in
theorem heldHalfS_any (A : Option Addr) (n c : Nat) (hs : List Hp) (m : Int) (w : World) (hn : n = hs.length) (hA : HsAt w w.heap.size A hs) (hm : MarkedTo hs m n) (hl : n ≤ 1000000000) (h1 : 0 ≤ m) (h2 : m ≤ 1000000000) :
    Calls Try.prog 16 #[.slice A n c, .int .i64 m] w fun e w' => e = .returned (.int .i64 (m + 3 * n)) ∧ w = w' := by
  have HA := Lib.hid hA; clear hA
  have HM := Lib.hid hm; clear hm
  have HN := Lib.hid hn; clear hn
  go_enter Try.func16, Try.ntmps16
  go_wp2
  go_loop [1, 5] (fun q i => ∃ k : Nat, k ≤ n ∧ i = .int .i64 k ∧ q = .int .i64 (m + 3 * k)) (fun _ i => n - (intOf i).toNat)
  case atStart => exact ⟨0, Nat.zero_le _, rfl, by simp⟩
  case round =>
    obtain ⟨k, hk, rfl, rfl⟩ := hrel
    by_cases hlt : k < n
    · have hl1 : k < hs.length := by have := HN.out; omega
      obtain ⟨b, off, rfl, hlb, c0, c1, c2⟩ := HA.out.at_ hl1
      have hx : hs[k] = (m + 3 * k, m + 3 * k + 1, m + 3 * k + 1 + 1) := by
        have := HM.out k hlt
        rw [List.getElem?_eq_getElem hl1] at this
        injection this
      rw [hx] at c0 c1 c2
      clear hx
      simp only at c0 c1 c2
      go_wp2
      go_round
      case rel => exact ⟨k + 1, by omega, by go_num, by rw [show m + 3 * (k : Int) + 1 + 1 + 1 = m + 3 * ((k + 1 : Nat) : Int) by omega]⟩
      case measure => simp [intOf]; omega
    · have hk' : k = n := by omega
      subst hk'
      go_wp2
      go_ret
      exact ⟨rfl, rfl⟩

def MarkPost (hs : List Hp) (v : Value) (m : Int) (B g : Nat) (w : World) (e : Ending) (w' : World) : Prop :=
  ∃ hs' : List Hp, hs'.length = hs.length ∧ e = .returned (.int .i64 (m + 3 * hs.length)) ∧ OwnH w' B v hs' ∧ MarkedTo hs' m hs.length ∧ w.grownBy w' (some g)

theorem OwnH.store3 {w : World} {B g cap n : Nat} {hs : List Hp} (h : OwnH w B (.slice (some ⟨g, 0, none⟩) n cap) hs) (hn : n = hs.length) {k : Nat} (hk : k < hs.length) (a b c : Int) :
    OwnH (((w.setCell ⟨g, k * 3, none⟩ (.int .i64 a)).setCell ⟨g, k * 3 + 1, none⟩ (.int .i64 b)).setCell ⟨g, k * 3 + 2, none⟩ (.int .i64 c)) B (.slice (some ⟨g, 0, none⟩) n cap) (hs.set k (a, b, c)) ∧
    w.grownBy (((w.setCell ⟨g, k * 3, none⟩ (.int .i64 a)).setCell ⟨g, k * 3 + 1, none⟩ (.int .i64 b)).setCell ⟨g, k * 3 + 2, none⟩ (.int .i64 c)) (some g) := by
  subst hn
  obtain ⟨r1, g1⟩ := World.ownsRow.stored h (k * 3) (.int .i64 a)
  obtain ⟨r2, g2⟩ := World.ownsRow.stored r1 (k * 3 + 1) (.int .i64 b)
  obtain ⟨r3, g3⟩ := World.ownsRow.stored r2 (k * 3 + 2) (.int .i64 c)
  rw [flatH_set hs k hs[k] a b c (List.getElem?_eq_getElem hk)] at r3
  refine ⟨?_, ⟨g3.os.trans (g2.os.trans g1.os), g3.tape.trans (g2.tape.trans g1.tape), g3.output.trans (g2.output.trans g1.output), Nat.le_trans g1.size (Nat.le_trans g2.size g3.size), fun b hb hne => ?_⟩⟩
  · unfold OwnH; rw [List.length_set]; exact r3
  · exact (g3.block b (Nat.lt_of_lt_of_le hb (Nat.le_trans g1.size g2.size)) hne).trans ((g2.block b (Nat.lt_of_lt_of_le hb g1.size) hne).trans (g1.block b hb hne))

theorem markedTo_step {hs : List Hp} {m : Int} {k : Nat} (h : MarkedTo hs m k) (hk : k < hs.length) : MarkedTo (hs.set k (m + 3 * k, m + 3 * k + 1, m + 3 * k + 1 + 1)) m (k + 1) := by
  intro j hj
  by_cases e : j = k
  · subst e; simp [hk]
  · rw [List.getElem?_set_ne (by omega)]; exact h j (by omega)

set_option maxHeartbeats 1000000 in
set_option maxRecDepth 100000 in
theorem markHalfS_any (g cap n B : Nat) (hs : List Hp) (m : Int) (w : World) (hO : OwnH w B (.slice (some ⟨g, 0, none⟩) n cap) hs) (hl : n ≤ 1000000000) (h1 : 0 ≤ m) (h2 : m ≤ 1000000000) :
    Calls Try.prog 15 #[.slice (some ⟨g, 0, none⟩) n cap, .int .i64 m] w (MarkPost hs (.slice (some ⟨g, 0, none⟩) n cap) m B g w) := by
  have HN := Lib.hid hO.reads.1
  have HO := Lib.hid hO; clear hO
  go_enter Try.func15, Try.ntmps15
  go_wp2
  go_loopw [1, 5] (fun q i wr => ∃ (k : Nat) (hs' : List Hp), k ≤ n ∧ i = .int .i64 k ∧ q = .int .i64 (m + 3 * k) ∧ RowKit.Hid (hs'.length = n) ∧ RowKit.Hid (MarkedTo hs' m k) ∧ RowKit.Hid (OwnH wr B (.slice (some ⟨g, 0, none⟩) n cap) hs') ∧ RowKit.Hid (w.grownBy wr (some g))) (fun _ i _ => n - (intOf i).toNat)
  case atStart => exact ⟨0, hs, Nat.zero_le _, rfl, by simp, HN.out.symm, fun j hj => by omega, HO.out, ⟨rfl, rfl, rfl, Nat.le_refl _, fun _ _ _ => rfl⟩⟩
  case round =>
    obtain ⟨k, hs', hk, rfl, rfl, HL, HM, HR, HG⟩ := hrel
    by_cases hlt : k < n
    · have hl1 : k < hs'.length := by have := HL.out; omega
      obtain ⟨f1, f2, f3⟩ := flatH_get hs' k hs'[k] (List.getElem?_eq_getElem hl1)
      have hRo : wr.ownsRow B 57 3 (.slice (some ⟨g, 0, none⟩) n cap) n (flatH hs') := by
        have := HR.out; unfold OwnH at this; rw [HL.out] at this; exact this
      have c0 := (hRo.cellAt (k * 3) (by omega)).trans f1
      have c1 := (hRo.cellAt (k * 3 + 1) (by omega)).trans f2
      have c2 := (hRo.cellAt (k * 3 + 2) (by omega)).trans f3
      have z0 := hRo.frozenAt (k * 3)
      have z1 := hRo.frozenAt (k * 3 + 1)
      have z2 := hRo.frozenAt (k * 3 + 2)
      clear f1 f2 f3 hRo
      go_wp2
      go_roundw
      case rel =>
        obtain ⟨r1, r2⟩ := HR.out.store3 HL.out.symm hl1 (m + 3 * k) (m + 3 * k + 1) (m + 3 * k + 1 + 1)
        have hg := HG.out
        exact ⟨k + 1, _, by omega, by go_num, by rw [show m + 3 * (k : Int) + 1 + 1 + 1 = m + 3 * ((k + 1 : Nat) : Int) by omega], by rw [List.length_set]; exact HL.out, markedTo_step HM.out hl1, r1, ⟨r2.os.trans hg.os, r2.tape.trans hg.tape, r2.output.trans hg.output, Nat.le_trans hg.size r2.size, fun b hb hne => (r2.block b (Nat.lt_of_lt_of_le hb hg.size) hne).trans (hg.block b hb hne)⟩⟩
      case measure => simp [intOf]; omega
    · have hk' : k = n := by omega
      subst hk'
      go_wp2
      go_ret
      have e := HN.out
      refine ⟨hs', HL.out.trans e, ?_, HR.out, ?_, HG.out⟩
      · show Ending.returned (.int .i64 (m + 3 * (k : Int))) = _
        rw [e]
      · rw [← e]; exact HM.out

end Go.Proofs.Ythdaoadleeelnaa
