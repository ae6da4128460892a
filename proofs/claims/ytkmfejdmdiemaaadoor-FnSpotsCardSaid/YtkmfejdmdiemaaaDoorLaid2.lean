/- What the listed errors say of the world. -/
import Derived.Test.YtkmfejdmdiemaaaDoorLaid
import Derived.Test.YtkmfejdmdiemaaaDoorPrs
namespace Go.Proofs.YtkmfejdmdiemaaaDoor
open Go.ChangeShapes Go.WideShapes Go.RowKit
set_option linter.unusedVariables false

theorem iface_of_trod {P : Program} {w : World} {t : TypeId} {ms : Array (String × TypeId)} {cs : List Value} {fuel : Nat} {d : DataW Unit} {p : List MemPlace} (ht : P.underlying t = some (.interface ms))
    (h : DataW.trod (fun _ => ()) P w 0 (fun _ => true) false fuel t cs = some (d, p)) : ∃ ev, cs = [ev] ∧ (ev = .nilIface ∨ ∃ te pe, ev = .iface te pe) := by
  cases fuel with
  | zero => simp [DataW.trod] at h
  | succ n =>
    simp only [DataW.trod, ht] at h
    match cs with
    | [] => simp at h
    | a :: b :: r => simp at h
    | [v] =>
      cases v with
      | nilIface => exact ⟨_, rfl, .inl rfl⟩
      | iface te pe => exact ⟨_, rfl, .inr ⟨te, pe, rfl⟩⟩
      | _ => simp at h

theorem err_of {l : List (String × DataW Unit)} {w : World} (h : laidMet Tryd.prog l w) {n : String} {d : DataW Unit} {g : Nat} (hm : (n, d) ∈ l) (hg : Tryd.prog.globalNamed n = some g) (ht : (Tryd.prog.globals[g]?).map (·.type) = some 75) :
    ∃ ev, w.cell? ⟨g, 0, none⟩ = some ev ∧ (ev = .nilIface ∨ ∃ te pe, ev = .iface te pe) := by
  obtain ⟨ps, hl, _⟩ := h
  obtain ⟨g', t, cs, fuel, p, h1, h2, h3, h4⟩ := laidVars_mem hl hm
  obtain rfl := Option.some.inj (hg.symm.trans h1)
  obtain rfl := Option.some.inj (ht.symm.trans h2)
  obtain ⟨ev, e, hev⟩ := iface_of_trod Tryd.underlying75 h4
  refine ⟨ev, ?_, hev⟩
  have := World.var?_cell h1 h3 0
  rw [this]
  have hc : cs[0]? = cs.toList[0]? := by simp
  rw [hc, e]; rfl

theorem errs_of {l : List (String × DataW Unit)} {w : World} (h : laidMet Tryd.prog l w) (hm1 : ("strconv.ErrSyntax", (Rows.laid_strconv_ErrSyntax : DataW Unit)) ∈ l ∧ ("strconv.ErrRange", (Rows.laid_strconv_ErrRange : DataW Unit)) ∈ l) : Errs w :=
  ⟨err_of h hm1.1 (by kernel_rfl) (by kernel_rfl), err_of h hm1.2 (by kernel_rfl) (by kernel_rfl)⟩

end Go.Proofs.YtkmfejdmdiemaaaDoor
