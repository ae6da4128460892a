/- SplitLines, of the program and of the reference. -/
import Derived.Test.YtkcalnahiabejaaDoorSplW
import Derived.Lib.SplitLaws
namespace Go.Proofs.YtkcalnahiabejaaDoor
open Go.ChangeShapes Go.WideShapes Go.ChangeAt Go.RowKit
attribute [local go_sem ↓] Go.wp_at_zero Go.wp_at_succ
set_option linter.unusedVariables false
open Go.Lib

theorem pcs_none {p : UInt8 → Bool} : ∀ (l cur : List UInt8), (∀ c ∈ l, p c = false) → pcs p cur l = [cur ++ l]
  | [], cur, _ => by simp [pcs]
  | c :: r, cur, h => by
    rw [pcs, h c List.mem_cons_self, if_neg (by simp), pcs_none r _ (fun x hx => h x (List.mem_cons_of_mem _ hx))]
    simp

theorem pcs_hit {p : UInt8 → Bool} {c : UInt8} {b : List UInt8} (hc : p c = true) : ∀ (a cur : List UInt8), (∀ x ∈ a, p x = false) → pcs p cur (a ++ c :: b) = (cur ++ a) :: pcs p [] b
  | [], cur, _ => by simp [pcs, hc]
  | x :: a, cur, h => by
    rw [List.cons_append, pcs, h x List.mem_cons_self, if_neg (by simp), pcs_hit hc a _ (fun y hy => h y (List.mem_cons_of_mem _ hy))]
    simp

theorem indexByte_app {c : UInt8} {b : List UInt8} : ∀ (a : List UInt8), (∀ x ∈ a, ¬ x = c) → indexByte (a ++ c :: b) c = a.length
  | [], _ => by simp [indexByte]
  | x :: a, h => by
    have ih := indexByte_app (b := b) a (fun y hy => h y (List.mem_cons_of_mem _ hy))
    have hx := h x List.mem_cons_self
    rw [List.cons_append, indexByte, if_neg (by simpa using hx), ih, if_neg (by first | (simp; done) | (simp; omega))]
    simp

theorem splitK_pcs (c : UInt8) : ∀ (n : Nat) (l : List UInt8), l.length ≤ n → splitK [c] 0 (l.count c) l = pcs (fun x => x == c) [] l := by
  intro n
  induction n with
  | zero =>
    intro l hl
    have : l = [] := List.eq_nil_of_length_eq_zero (by omega)
    subst this; rfl
  | succ n ih =>
    intro l hl
    by_cases hc : c ∈ l
    · obtain ⟨a, b, rfl, ha⟩ := List.append_of_mem hc |> fun _ => List.eq_append_cons_of_mem hc
      have ha' : ∀ x ∈ a, ¬ x = c := fun x hx e => ha (e ▸ hx)
      have h0 : a.count c = 0 := List.count_eq_zero.2 ha
      have hcount : (a ++ c :: b).count c = b.count c + 1 := by rw [List.count_append, h0, List.count_cons_self]; omega
      have hix : index (a ++ c :: b) [c] = a.length := by rw [index_one, indexByte_app a ha']
      rw [hcount, splitK, hix, if_neg (by first | (simp; done) | (simp; omega))]
      have e1 : (((a.length : Nat) : Int)).toNat = a.length := by omega
      rw [e1, pcs_hit (by simp) a [] (fun x hx => by simpa using ha' x hx)]
      have e2 : (a ++ c :: b).take (a.length + 0) = a := by simp
      have e3 : (a ++ c :: b).drop (a.length + [c].length) = b := by simp [List.drop_append]
      rw [e2, e3, ih b (by simp at hl; omega)]
      rfl
    · rw [List.count_eq_zero.2 hc, splitK, pcs_none l [] (fun x hx => by have : ¬ x = c := (fun e => hc (by rw [← e]; exact hx)); simpa using this)]
      rfl

def nlB : ByteArray := ⟨#[10]⟩

theorem amg_nl : amg nlB = fun x => x == 10 := by
  funext c
  unfold amg nlB
  show ([10] : List UInt8).contains c = _
  simp [List.contains, List.elem]
  cases h : (c == 10) <;> rfl

theorem split_pcsB (s : ByteArray) : splitB nlB 0 (countB s nlB) s = pcsB s nlB := by
  have h1 := splitB_data nlB 0 (countB s nlB) s
  have h2 : countB s nlB = s.data.toList.count 10 := count_one 10 _
  rw [h2] at h1
  rw [h2]
  have h3 : splitK nlB.data.toList 0 (s.data.toList.count 10) s.data.toList = pcs (amg nlB) [] s.data.toList := by
    rw [amg_nl]; exact splitK_pcs 10 _ _ (Nat.le_refl _)
  rw [h3] at h1
  unfold pcsB
  rw [← h1, List.map_map]
  conv => lhs; rw [← List.map_id (splitB nlB 0 (List.count 10 s.data.toList) s)]
  apply List.map_congr_left
  intro x _
  exact (bs_data x).symm

/-- The lines: without the last piece if it is empty. -/
def linesL (ls : List ByteArray) : List ByteArray := if ls.getLast? = some ByteArray.empty then ls.dropLast else ls

def linesB (s : ByteArray) : List ByteArray := linesL (pcsB s nlB)

/-- The laws' own slice, without its last element. -/
theorem OwnS.drop {w : World} {B g n c : Nat} {ls : List ByteArray} (h : OwnS w B (.slice (some ⟨g, 0, none⟩) n c) ls) (hn : 0 < n) : OwnS w B (.slice (some ⟨g, 0, none⟩) (n - 1) c) ls.dropLast := by
  have e := h.reads.1
  unfold OwnS at h ⊢
  rcases h.2 with ⟨hv, _⟩ | ⟨g', cap, cur, hv, hb, hg, hn', hm, hs', ht⟩
  · injection hv with hv; cases hv
  · injection hv with e1 e2 e3
    subst e3
    injection e1 with e1
    injection e1 with e1
    subst e1
    refine ⟨by simp [strV], .inr ⟨g, c, cur, by rw [List.length_dropLast, ← e], hb, hg, by rw [List.length_dropLast]; omega, hm, hs', ?_⟩⟩
    have hk := congrArg (List.take (ls.length - 1)) ht
    rw [List.take_take] at hk
    rw [List.length_dropLast, Nat.mul_one]
    rw [Nat.mul_one, Nat.min_eq_left (by omega)] at hk
    rw [hk]
    unfold strV
    rw [← List.map_take, List.dropLast_eq_take]

end Go.Proofs.YtkcalnahiabejaaDoor
