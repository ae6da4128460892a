/- Slices of strings that a call itself made: read, marked, held. -/
import Derived.Test.YtkmfejdmdiemaaaDoorStrs
import Derived.Test.YtkmfejdmdiemaaaDoorNume
namespace Go.Proofs.YtkmfejdmdiemaaaDoor
open Go.ChangeShapes Go.WideShapes Go.ChangeAt Go.RowKit
attribute [local go_sem ↓] Go.wp_at_zero Go.wp_at_succ
set_option linter.unusedVariables false

def strV (ls : List ByteArray) : List Value := ls.map Value.string

theorem strV_len (ls : List ByteArray) : (strV ls).length = ls.length := by simp [strV]

theorem strV_get {ls : List ByteArray} {k : Nat} {h : ByteArray} (e : ls[k]? = some h) : (strV ls)[k]? = some (.string h) := by simp [strV, e]

theorem strV_set (ls : List ByteArray) (k : Nat) (s : ByteArray) : (strV ls).set k (.string s) = strV (ls.set k s) := by simp [strV, List.map_set]

theorem strV_one (ls : List ByteArray) : ∀ u ∈ strV ls, u.oneCell' = true := by
  intro u hu
  simp only [strV, List.mem_map] at hu
  obtain ⟨x, _, rfl⟩ := hu
  rfl

/-- A slice of strings that the call itself made. -/
def OwnS (w : World) (B : Nat) (v : Value) (ls : List ByteArray) : Prop := w.ownsRow B 9 1 v ls.length (strV ls)

theorem OwnS.shape {w : World} {B : Nat} {v : Value} {ls : List ByteArray} (h : OwnS w B v ls) : (v = .slice none 0 0 ∧ ls = []) ∨ ∃ g cap, v = .slice (some ⟨g, 0, none⟩) ls.length cap ∧ B ≤ g ∧ g < w.heap.size ∧ ls.length ≤ cap := by
  rcases h.2 with ⟨rfl, e⟩ | ⟨g, cap, cur, rfl, hb, hg, hn, hm, hs', ht⟩
  · left
    exact ⟨rfl, List.eq_nil_of_length_eq_zero e⟩
  · exact .inr ⟨g, cap, rfl, hb, (Array.getElem?_eq_some_iff.1 hg).1, hn⟩

theorem OwnS.reads {w : World} {B : Nat} {A : Option Addr} {n c : Nat} {ls : List ByteArray} (h : OwnS w B (.slice A n c) ls) : n = ls.length ∧ SsAt w w.heap.size A ls := by
  rcases h.shape with ⟨e, e'⟩ | ⟨g, cap, e, hb, hlt, hn⟩
  · subst e'; injection e with e1 e2 e3; subst e2; exact ⟨rfl, .inl rfl⟩
  · injection e with e1 e2 e3
    subst e1 e2 e3
    refine ⟨rfl, .inr ⟨g, 0, rfl, hlt, fun k x hx => ?_⟩⟩
    have hk : k < ls.length := by
      rcases Nat.lt_or_ge k ls.length with h' | h'
      · exact h'
      · rw [List.getElem?_eq_none h'] at hx; cases hx
    unfold OwnS at h
    rw [Nat.zero_add]
    exact (h.cellAt _ (by omega)).trans (strV_get hx)

theorem OwnS.kept {w w' : World} {B : Nat} {v : Value} {ls : List ByteArray} (h : OwnS w B v ls) (hb : Below w.heap.size w w') : OwnS w' B v ls :=
  World.ownsRow.kept h (row := none) ⟨hb.os, hb.tape, hb.output, hb.size, fun k hk _ => hb.block k hk⟩ (by cases v.ownBlock <;> simp)

theorem OwnS.less {w : World} {B B' : Nat} {v : Value} {ls : List ByteArray} (h : OwnS w B v ls) (hB : B' ≤ B) : OwnS w B' v ls := by
  refine ⟨h.1, ?_⟩
  rcases h.2 with h | ⟨g, cap, cur, e, hb, rest⟩
  · exact .inl h
  · exact .inr ⟨g, cap, cur, e, by omega, rest⟩

/-- What a call hands back that made a slice of strings, with one piece at least. -/
def MadeS (ls : List ByteArray) (w : World) (e : Ending) (w' : World) : Prop := ∃ g c, e = .returned (.slice (some ⟨g, 0, none⟩) ls.length c) ∧ OwnS w' w.heap.size (.slice (some ⟨g, 0, none⟩) ls.length c) ls ∧ w.heap.size ≤ g ∧ Below w.heap.size w w'

/-- The text that the laws mark a place with. -/
def markV (k : Nat) : ByteArray := bs (109 :: Lib.decDigits k)

theorem OwnS.store {w : World} {B g cap n : Nat} {ls : List ByteArray} (h : OwnS w B (.slice (some ⟨g, 0, none⟩) n cap) ls) (hn : n = ls.length) {k : Nat} (s : ByteArray) :
    OwnS (w.setCell ⟨g, k, none⟩ (.string s)) B (.slice (some ⟨g, 0, none⟩) n cap) (ls.set k s) ∧ w.grownBy (w.setCell ⟨g, k, none⟩ (.string s)) (some g) := by
  subst hn
  obtain ⟨r1, g1⟩ := World.ownsRow.stored h k (.string s)
  rw [strV_set] at r1
  refine ⟨?_, g1⟩
  unfold OwnS; rw [List.length_set]; exact r1

def MarkedS (ls : List ByteArray) (m : Nat) (k : Nat) : Prop := ∀ j, j < k → ls[j]? = some (markV (m + j))

theorem markedS_step {ls : List ByteArray} {m k : Nat} (h : MarkedS ls m k) (hk : k < ls.length) : MarkedS (ls.set k (markV (m + k))) m (k + 1) := by
  intro j hj
  by_cases e : j = k
  · subst e; simp [hk]
  · rw [List.getElem?_set_ne (by omega)]; exact h j (by omega)

end Go.Proofs.YtkmfejdmdiemaaaDoor
