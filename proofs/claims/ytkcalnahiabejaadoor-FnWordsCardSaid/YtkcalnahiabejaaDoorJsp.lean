/- A string's pieces, joined again. Plain. -/
import Derived.Test.YtkcalnahiabejaaDoorJoin2
namespace Go.Proofs.YtkcalnahiabejaaDoor
open Go.Lib
set_option linter.unusedVariables false

theorem join_pcs (c : UInt8) {p : UInt8 → Bool} (hp : ∀ x, p x = true → x = c) : ∀ (l cur : List UInt8), Lib.join (pcs p cur l) [c] = cur ++ l
  | [], cur => by simp [pcs, join_one]
  | x :: r, cur => by
    rw [pcs]
    cases hx : p x
    · rw [if_neg (by simp), join_pcs c hp r (cur ++ [x])]; simp
    · rw [if_pos rfl]
      have ih := join_pcs c hp r []
      cases hq : pcs p [] r with
      | nil => exact absurd hq (pcs_ne p r [])
      | cons y ys =>
        rw [hq, join_cons] at ih
        rw [join_cons, joinTail, List.map_cons, List.flatten_cons]
        rw [joinTail] at ih
        rw [List.append_assoc, ih, hp x hx]
        simp

theorem join_split (s : ByteArray) (c : UInt8) : joinB (pcsB s (bs [c])) (bs [c]) = s := by
  unfold joinB joinL pcsB
  rw [List.map_map]
  have e : (pcs (amg (bs [c])) [] s.data.toList).map ((fun x : ByteArray => x.data.toList) ∘ bs) = pcs (amg (bs [c])) [] s.data.toList := by
    conv => rhs; rw [← List.map_id (pcs (amg (bs [c])) [] s.data.toList)]
    apply List.map_congr_left
    intro x _
    exact bs_toList x
  rw [e, bs_toList, join_pcs c (fun x hx => by unfold amg at hx; rw [bs_toList] at hx; simpa using hx)]
  simp [bs_data]

theorem pcs_sizes (p : UInt8 → Bool) : ∀ (l cur : List UInt8), sizes ((pcs p cur l).map bs) ≤ cur.length + l.length
  | [], cur => by simp [pcs, sizes, bs_size]
  | x :: r, cur => by
    rw [pcs]
    split
    · have := pcs_sizes p r []
      simp only [sizes, List.map_cons, List.sum_cons, bs_size, List.length_cons, List.length_nil] at this ⊢
      omega
    · have := pcs_sizes p r (cur ++ [x])
      simp only [List.length_append, List.length_cons, List.length_nil] at this ⊢
      omega

theorem pcsB_sizes (s by_ : ByteArray) : sizes (pcsB s by_) ≤ s.size := by
  unfold pcsB
  have := pcs_sizes (amg by_) s.data.toList []
  simpa using this

end Go.Proofs.YtkcalnahiabejaaDoor
