/- A parameter that is a struct, of plain fields. -/
import Derived.Test.YtnnkohddhiecoaaOpenC
namespace Go.Proofs.Ytnnkohddhiecoaa.Op
open Go Go.RowKit Go.Deep Go.Proofs.YtnnkohddhiecoaaW.PrintWords Go.Proofs.YtnnkohddhiecoaaW.PrintLast Go.Proofs.YtnnkohddhiecoaaW.PrintMore
set_option linter.unusedVariables false
section
variable {H : Type} {enc : TypeId × Value → H} {P : Program} {w : World}
theorem open_agg {α : Type} {d : Kd α} {G : α → Prop} {t : TypeId} (he : Opens enc P w d G t) {v : Value} {D : DataW H} {p : List MemPlace} (h : DataW.Trod enc P w 0 (fun _ => true) true t v D p) (hv : ∃ cs, v = .agg cs ∧ cs.size = P.cellsOf t) :
    ∃ cs y, v = .agg cs ∧ d.K w y cs.toList ∧ G y := by
  obtain ⟨n, h⟩ := h
  obtain ⟨cs, rfl, _⟩ := hv
  obtain ⟨y, hk, hg⟩ := he.2 n _ _ h
  exact ⟨cs, y, rfl, hk, hg⟩
end
end Go.Proofs.Ytnnkohddhiecoaa.Op
