/- A call that came in: what is known of it. -/
import Derived.Test.YtehjbhnlbjbhfaaDkT
import Derived.Test.YtehjbhnlbjbhfaaOpenC
namespace Go.Proofs.Ytehjbhnlbjbhfaa.Dk
open Go Go.RowKit Go.Proofs.YtehjbhnlbjbhfaaW.PrintWords Go.Proofs.YtehjbhnlbjbhfaaW.PrintLast Go.Proofs.YtehjbhnlbjbhfaaW.PrintMore
open Go.Proofs.Ytehjbhnlbjbhfaa.PDiskBegins
set_option linter.unusedVariables false
def wfI (n : Int) : Prop := (Lit.int .i64 n).wf = true
theorem wfI_range {n : Int} (h : wfI n) : -9223372036854775808 ≤ n ∧ n ≤ 9223372036854775807 := by
  unfold wfI Lit.wf at h
  simp at h
  exact h
def GDo (x : S35) : Prop := wfI x.f0 ∧ wfI x.f1 ∧ wfI x.f2 ∧ (∀ y ∈ x.f3, (Lit.int .u8 y).wf = true) ∧ (∀ y ∈ x.f4, wfI y)
theorem opens35 {H : Type} {enc : TypeId × Value → H} {W : World} : Op.Opens enc Try.prog W k35 GDo 35 :=
  Op.opens_iso (Op.opens_struct (d := Kd.pair (Kd.int .i64) (Kd.pair (Kd.int .i64) (Kd.pair (Kd.int .i64) (Kd.pair (Kd.slice 5 (Kd.int .u8)) (Kd.slice 3 (Kd.int .i64)))))) Try.underlying35 (by kernel_rfl)
    (Op.fields_cons rfl (Op.opens_int Try.underlying3 (by kernel_rfl)) (Op.fields_cons rfl (Op.opens_int Try.underlying3 (by kernel_rfl)) (Op.fields_cons rfl (Op.opens_int Try.underlying3 (by kernel_rfl)) (Op.fields_cons rfl (Op.opens_slice Try.underlying32 (by kernel_rfl) (Op.opens_int Try.underlying5 (by kernel_rfl))) (Op.fields_one rfl (Op.opens_slice Try.underlying33 (by kernel_rfl) (Op.opens_int Try.underlying3 (by kernel_rfl)))))))))
    (fun x : S35 => (x.f0, x.f1, x.f2, x.f3, x.f4)) (fun p => ⟨p.1, p.2.1, p.2.2.1, p.2.2.2.1, p.2.2.2.2⟩) (fun _ => rfl)
theorem GDo.ok {x : S35} (h : GDo x) (hs : Small x) : (toDd x).ok :=
  ⟨wfI_range h.2.2.1, fun y hy => wfI_range (h.2.2.2.2 y hy), by have := hs.2; show x.f4.length < _; omega, by have := hs.1; show x.f3.length < _; omega⟩
end Go.Proofs.Ytehjbhnlbjbhfaa.Dk
