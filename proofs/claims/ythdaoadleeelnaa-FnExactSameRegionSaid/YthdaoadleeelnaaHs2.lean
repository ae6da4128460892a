/- Slices of half planes that a call itself made: read, marked, held. -/
import Derived.Test.YthdaoadleeelnaaHs
import Derived.Test.YthdaoadleeelnaaPlane2
namespace Go.Proofs.Ythdaoadleeelnaa
open Go.ChangeShapes Go.WideShapes Go.ChangeAt Go.RowKit
attribute [local go_sem ↓] Go.wp_at_zero Go.wp_at_succ
set_option linter.unusedVariables false

def flatH (hs : List Hp) : List Value := hs.flatMap fun h => [.int .i64 h.1, .int .i64 h.2.1, .int .i64 h.2.2]

theorem flatH_cons (h : Hp) (hs : List Hp) : flatH (h :: hs) = .int .i64 h.1 :: .int .i64 h.2.1 :: .int .i64 h.2.2 :: flatH hs := rfl

theorem flatH_len (hs : List Hp) : (flatH hs).length = hs.length * 3 := by
  induction hs with
  | nil => rfl
  | cons h hs ih => rw [flatH_cons]; simp only [List.length_cons, ih]; omega

theorem flatH_get : ∀ (hs : List Hp) (k : Nat) (h : Hp), hs[k]? = some h → (flatH hs)[k * 3]? = some (.int .i64 h.1) ∧ (flatH hs)[k * 3 + 1]? = some (.int .i64 h.2.1) ∧ (flatH hs)[k * 3 + 2]? = some (.int .i64 h.2.2)
  | [], k, h, e => by simp at e
  | x :: hs, 0, h, e => by simp at e; subst e; rw [flatH_cons]; exact ⟨rfl, rfl, rfl⟩
  | x :: hs, k + 1, h, e => by
    have := flatH_get hs k h (by simpa using e)
    rw [flatH_cons, show (k + 1) * 3 = k * 3 + 3 by omega]
    exact this

theorem flatH_set : ∀ (hs : List Hp) (k : Nat) (h : Hp) (a b c : Int), hs[k]? = some h → (((flatH hs).set (k * 3) (.int .i64 a)).set (k * 3 + 1) (.int .i64 b)).set (k * 3 + 2) (.int .i64 c) = flatH (hs.set k (a, b, c))
  | [], k, h, a, b, c, e => by simp at e
  | x :: hs, 0, h, a, b, c, e => by simp [flatH_cons]
  | x :: hs, k + 1, h, a, b, c, e => by
    have := flatH_set hs k h a b c (by simpa using e)
    rw [flatH_cons, show (k + 1) * 3 = k * 3 + 3 by omega]
    simp only [List.set_cons_succ, flatH_cons]
    rw [this]

/-- A slice of half planes that the call itself made. -/
def OwnH (w : World) (B : Nat) (v : Value) (hs : List Hp) : Prop := w.ownsRow B 57 3 v hs.length (flatH hs)

theorem OwnH.shape {w : World} {B : Nat} {v : Value} {hs : List Hp} (h : OwnH w B v hs) : (v = .slice none 0 0 ∧ hs = []) ∨ ∃ g cap, v = .slice (some ⟨g, 0, none⟩) hs.length cap ∧ B ≤ g ∧ g < w.heap.size ∧ hs.length ≤ cap := by
  rcases h.2 with ⟨rfl, e⟩ | ⟨g, cap, cur, rfl, hb, hg, hn, hm, hs', ht⟩
  · left
    exact ⟨rfl, List.eq_nil_of_length_eq_zero e⟩
  · exact .inr ⟨g, cap, rfl, hb, (Array.getElem?_eq_some_iff.1 hg).1, hn⟩

theorem OwnH.reads {w : World} {B : Nat} {A : Option Addr} {n c : Nat} {hs : List Hp} (h : OwnH w B (.slice A n c) hs) : n = hs.length ∧ HsAt w w.heap.size A hs := by
  rcases h.shape with ⟨e, e'⟩ | ⟨g, cap, e, hb, hlt, hn⟩
  · subst e'; injection e with e1 e2 e3; subst e2; exact ⟨rfl, .inl rfl⟩
  · injection e with e1 e2 e3
    subst e1 e2 e3
    refine ⟨rfl, .inr ⟨g, 0, rfl, hlt, fun k x hx => ?_⟩⟩
    have hk : k < hs.length := by
      rcases Nat.lt_or_ge k hs.length with h' | h'
      · exact h'
      · rw [List.getElem?_eq_none h'] at hx; cases hx
    obtain ⟨f1, f2, f3⟩ := flatH_get hs k x hx
    unfold OwnH at h
    rw [Nat.zero_add]
    exact ⟨(h.cellAt _ (by omega)).trans f1, (h.cellAt _ (by omega)).trans f2, (h.cellAt _ (by omega)).trans f3⟩

theorem OwnH.kept {w w' : World} {B : Nat} {v : Value} {hs : List Hp} (h : OwnH w B v hs) (hb : Below w.heap.size w w') : OwnH w' B v hs :=
  World.ownsRow.kept h (row := none) ⟨hb.os, hb.tape, hb.output, hb.size, fun k hk _ => hb.block k hk⟩ (by cases v.ownBlock <;> simp)

theorem OwnH.keptBut {w w' : World} {B : Nat} {v : Value} {hs : List Hp} {g : Nat} (h : OwnH w B v hs) (hb : w.grownBy w' (some g)) (hne : v.ownBlock ≠ some g) : OwnH w' B v hs := World.ownsRow.kept h hb (.inr hne)

theorem OwnH.drew {w : World} {B : Nat} {v : Value} {hs : List Hp} (h : OwnH w B v hs) : OwnH w.drew B v hs := h

theorem frame_flat : flatH frameL = [.int .i64 1, .int .i64 0, .int .i64 1000, .int .i64 0, .int .i64 1, .int .i64 1000, .int .i64 (-1), .int .i64 0, .int .i64 1000, .int .i64 0, .int .i64 (-1), .int .i64 1000] := rfl

def MadeH (hs : List Hp) (w : World) (e : Ending) (w' : World) : Prop := ∃ g c, e = .returned (.slice (some ⟨g, 0, none⟩) hs.length c) ∧ OwnH w' w.heap.size (.slice (some ⟨g, 0, none⟩) hs.length c) hs ∧ w.heap.size ≤ g ∧ Below w.heap.size w w'

theorem frame_made (w : World) : MadeH frameL w (.returned (.slice (some ⟨w.heap.size, 0, none⟩) 4 4)) (w.alloc (.cells #[.int .i64 1, .int .i64 0, .int .i64 1000, .int .i64 0, .int .i64 1, .int .i64 1000, .int .i64 (-1), .int .i64 0, .int .i64 1000, .int .i64 0, .int .i64 (-1), .int .i64 1000] 57)) :=
  ⟨_, 4, rfl, World.ownsRow_lit w _ 4 (Nat.le_refl _) (by unfold maxLen; omega) rfl, Nat.le_refl _, (Below.refl _ _).alloc (Nat.le_refl _) _⟩

set_option maxHeartbeats 400000 in
theorem iFrameHalves_any (w : World) : Calls Try.prog 13 #[] w (MadeH frameL w) := by
  go_enter Try.func13, Try.ntmps13
  go_wp2
  go_ret
  exact frame_made w
set_option maxHeartbeats 400000 in
theorem sFrameHalves_any (w : World) : Calls Try.prog 12 #[] w (MadeH frameL w) := by
  go_enter Try.func12, Try.ntmps12
  go_wp2
  go_ret
  exact frame_made w

def MarkedTo (hs : List Hp) (m : Int) (k : Nat) : Prop := ∀ j, j < k → hs[j]? = some (m + 3 * j, m + 3 * j + 1, m + 3 * j + 1 + 1)

set_option maxHeartbeats 1000000 in
theorem heldHalfS_any (A : Option Addr) (n c : Nat) (hs : List Hp) (m : Int) (w : World) (hn : n = hs.length) (hA : HsAt w w.heap.size A hs) (hm : MarkedTo hs m n) (hl : n ≤ 1000000000) (h1 : 0 ≤ m) (h2 : m ≤ 1000000000) :
    Calls Try.prog 16 #[.slice A n c, .int .i64 m] w fun e w' => e = .returned (.int .i64 (m + 3 * n)) ∧ w = w' := by
  have HA := Lib.hid hA; clear hA
  have HM := Lib.hid hm; clear hm
  have HN := Lib.hid hn; clear hn
  go_enter Try.func16, Try.ntmps16
  go_wp2
  go_loop [1, 5] (fun q i => ∃ k : Nat, k ≤ n ∧ i = .int .i64 k ∧ q = .int .i64 (m + 3 * k)) (fun _ i => n - (intOf i).toNat)
  case atStart => exact ⟨0, Nat.zero_le _, rfl, by simp⟩
  case round =>
    obtain ⟨k, hk, rfl, rfl⟩ := hrel
    by_cases hlt : k < n
    · have hl1 : k < hs.length := by have := HN.out; omega
      obtain ⟨b, off, rfl, hlb, c0, c1, c2⟩ := HA.out.at_ hl1
      have hx : hs[k] = (m + 3 * k, m + 3 * k + 1, m + 3 * k + 1 + 1) := by
        have := HM.out k hlt
        rw [List.getElem?_eq_getElem hl1] at this
        injection this
      rw [hx] at c0 c1 c2
      clear hx
      simp only at c0 c1 c2
      go_wp2
      go_round
      case rel => exact ⟨k + 1, by omega, by go_num, by rw [show m + 3 * (k : Int) + 1 + 1 + 1 = m + 3 * ((k + 1 : Nat) : Int) by omega]⟩
      case measure => simp [intOf]; omega
    · have hk' : k = n := by omega
      subst hk'
      go_wp2
      go_ret
      exact ⟨rfl, rfl⟩

def MarkPost (hs : List Hp) (v : Value) (m : Int) (B g : Nat) (w : World) (e : Ending) (w' : World) : Prop :=
  ∃ hs' : List Hp, hs'.length = hs.length ∧ e = .returned (.int .i64 (m + 3 * hs.length)) ∧ OwnH w' B v hs' ∧ MarkedTo hs' m hs.length ∧ w.grownBy w' (some g)

theorem OwnH.store3 {w : World} {B g cap n : Nat} {hs : List Hp} (h : OwnH w B (.slice (some ⟨g, 0, none⟩) n cap) hs) (hn : n = hs.length) {k : Nat} (hk : k < hs.length) (a b c : Int) :
    OwnH (((w.setCell ⟨g, k * 3, none⟩ (.int .i64 a)).setCell ⟨g, k * 3 + 1, none⟩ (.int .i64 b)).setCell ⟨g, k * 3 + 2, none⟩ (.int .i64 c)) B (.slice (some ⟨g, 0, none⟩) n cap) (hs.set k (a, b, c)) ∧
    w.grownBy (((w.setCell ⟨g, k * 3, none⟩ (.int .i64 a)).setCell ⟨g, k * 3 + 1, none⟩ (.int .i64 b)).setCell ⟨g, k * 3 + 2, none⟩ (.int .i64 c)) (some g) := by
  subst hn
  obtain ⟨r1, g1⟩ := World.ownsRow.stored h (k * 3) (.int .i64 a)
  obtain ⟨r2, g2⟩ := World.ownsRow.stored r1 (k * 3 + 1) (.int .i64 b)
  obtain ⟨r3, g3⟩ := World.ownsRow.stored r2 (k * 3 + 2) (.int .i64 c)
  rw [flatH_set hs k hs[k] a b c (List.getElem?_eq_getElem hk)] at r3
  refine ⟨?_, ⟨g3.os.trans (g2.os.trans g1.os), g3.tape.trans (g2.tape.trans g1.tape), g3.output.trans (g2.output.trans g1.output), Nat.le_trans g1.size (Nat.le_trans g2.size g3.size), fun b hb hne => ?_⟩⟩
  · unfold OwnH; rw [List.length_set]; exact r3
  · exact (g3.block b (Nat.lt_of_lt_of_le hb (Nat.le_trans g1.size g2.size)) hne).trans ((g2.block b (Nat.lt_of_lt_of_le hb g1.size) hne).trans (g1.block b hb hne))

theorem markedTo_step {hs : List Hp} {m : Int} {k : Nat} (h : MarkedTo hs m k) (hk : k < hs.length) : MarkedTo (hs.set k (m + 3 * k, m + 3 * k + 1, m + 3 * k + 1 + 1)) m (k + 1) := by
  intro j hj
  by_cases e : j = k
  · subst e; simp [hk]
  · rw [List.getElem?_set_ne (by omega)]; exact h j (by omega)

set_option maxHeartbeats 1000000 in
theorem markHalfS_any (g cap n B : Nat) (hs : List Hp) (m : Int) (w : World) (hO : OwnH w B (.slice (some ⟨g, 0, none⟩) n cap) hs) (hl : n ≤ 1000000000) (h1 : 0 ≤ m) (h2 : m ≤ 1000000000) :
    Calls Try.prog 15 #[.slice (some ⟨g, 0, none⟩) n cap, .int .i64 m] w (MarkPost hs (.slice (some ⟨g, 0, none⟩) n cap) m B g w) := by
  have HN := Lib.hid hO.reads.1
  have HO := Lib.hid hO; clear hO
  go_enter Try.func15, Try.ntmps15
  go_wp2
  go_loopw [1, 5] (fun q i wr => ∃ (k : Nat) (hs' : List Hp), k ≤ n ∧ i = .int .i64 k ∧ q = .int .i64 (m + 3 * k) ∧ RowKit.Hid (hs'.length = n) ∧ RowKit.Hid (MarkedTo hs' m k) ∧ RowKit.Hid (OwnH wr B (.slice (some ⟨g, 0, none⟩) n cap) hs') ∧ RowKit.Hid (w.grownBy wr (some g))) (fun _ i _ => n - (intOf i).toNat)
  case atStart => exact ⟨0, hs, Nat.zero_le _, rfl, by simp, HN.out.symm, fun j hj => by omega, HO.out, ⟨rfl, rfl, rfl, Nat.le_refl _, fun _ _ _ => rfl⟩⟩
  case round =>
    obtain ⟨k, hs', hk, rfl, rfl, HL, HM, HR, HG⟩ := hrel
    by_cases hlt : k < n
    · have hl1 : k < hs'.length := by have := HL.out; omega
      obtain ⟨f1, f2, f3⟩ := flatH_get hs' k hs'[k] (List.getElem?_eq_getElem hl1)
      have hRo : wr.ownsRow B 57 3 (.slice (some ⟨g, 0, none⟩) n cap) n (flatH hs') := by
        have := HR.out; unfold OwnH at this; rw [HL.out] at this; exact this
      have c0 := (hRo.cellAt (k * 3) (by omega)).trans f1
      have c1 := (hRo.cellAt (k * 3 + 1) (by omega)).trans f2
      have c2 := (hRo.cellAt (k * 3 + 2) (by omega)).trans f3
      have z0 := hRo.frozenAt (k * 3)
      have z1 := hRo.frozenAt (k * 3 + 1)
      have z2 := hRo.frozenAt (k * 3 + 2)
      clear f1 f2 f3 hRo
      go_wp2
      go_roundw
      case rel =>
        obtain ⟨r1, r2⟩ := HR.out.store3 HL.out.symm hl1 (m + 3 * k) (m + 3 * k + 1) (m + 3 * k + 1 + 1)
        have hg := HG.out
        exact ⟨k + 1, _, by omega, by go_num, by rw [show m + 3 * (k : Int) + 1 + 1 + 1 = m + 3 * ((k + 1 : Nat) : Int) by omega], by rw [List.length_set]; exact HL.out, markedTo_step HM.out hl1, r1, ⟨r2.os.trans hg.os, r2.tape.trans hg.tape, r2.output.trans hg.output, Nat.le_trans hg.size r2.size, fun b hb hne => (r2.block b (Nat.lt_of_lt_of_le hb hg.size) hne).trans (hg.block b hb hne)⟩⟩
      case measure => simp [intOf]; omega
    · have hk' : k = n := by omega
      subst hk'
      go_wp2
      go_ret
      have e := HN.out
      refine ⟨hs', HL.out.trans e, ?_, HR.out, ?_, HG.out⟩
      · show Ending.returned (.int .i64 (m + 3 * (k : Int))) = _
        rw [e]
      · rw [← e]; exact HM.out

end Go.Proofs.Ythdaoadleeelnaa
