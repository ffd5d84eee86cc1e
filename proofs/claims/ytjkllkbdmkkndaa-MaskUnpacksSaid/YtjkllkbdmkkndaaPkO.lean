/- A field that came in: what is known of it. -/
import Derived.Test.YtjkllkbdmkkndaaPkC
import Derived.Test.YtjkllkbdmkkndaaOpenC
namespace Go.Proofs.Ytjkllkbdmkkndaa.Pk
open Go Go.RowKit Go.Proofs.YtjkllkbdmkkndaaW.PrintWords Go.Proofs.YtjkllkbdmkkndaaW.PrintLast Go.Proofs.YtjkllkbdmkkndaaW.PrintMore Go.Proofs.Ytjkllkbdmkkndaa.Bits
open Go.Proofs.Ytjkllkbdmkkndaa.PMaskUnpacks
set_option linter.unusedVariables false
theorem opens56w {H : Type} {enc : TypeId × Value → H} {W : World} : Op.Opens enc Try.prog W k56 (fun x => (Lit.int .i64 x.f0).wf = true ∧ (Lit.int .i64 x.f1).wf = true ∧ True) 56 :=
  Op.opens_iso (Op.opens_struct (d := Kd.pair (Kd.int .i64) (Kd.pair (Kd.int .i64) Kd.bool)) Try.underlying56 (by kernel_rfl)
    (Op.fields_cons rfl (Op.opens_int Try.underlying3 (by kernel_rfl)) (Op.fields_cons rfl (Op.opens_int Try.underlying2 (by kernel_rfl)) (Op.fields_one rfl (Op.opens_bool Try.underlying4 (by kernel_rfl))))))
    (fun x : S56 => (x.f0, x.f1, x.f2)) (fun p => ⟨p.1, p.2.1, p.2.2⟩) (fun _ => rfl)
theorem opens56 {H : Type} {enc : TypeId × Value → H} {W : World} : Op.Opens enc Try.prog W k56 GF 56 :=
  ⟨(opens56w (enc := enc) (W := W)).1, fun n cs x h => by
    obtain ⟨y, hk, hg⟩ := (opens56w (enc := enc) (W := W)).2 n cs x h
    exact ⟨y, hk, wf_i64 hg.2.1⟩⟩
end Go.Proofs.Ytjkllkbdmkkndaa.Pk
