/- Any fields in one word, or that they cannot be: the walk of the law over the contracts of both answers. -/
import Derived.Test.YtjkllkbdmkkndaaPkO
namespace Go.Proofs.Ytjkllkbdmkkndaa.Wk
open Go Go.RowKit Go.Proofs.YtjkllkbdmkkndaaW.PrintWords Go.Proofs.YtjkllkbdmkkndaaW.PrintLast Go.Proofs.YtjkllkbdmkkndaaW.PrintMore Go.Proofs.Ytjkllkbdmkkndaa.Bits Go.Proofs.Ytjkllkbdmkkndaa.Ref
open Go.Proofs.Ytjkllkbdmkkndaa.PMaskUnpacks Go.Proofs.Ytjkllkbdmkkndaa.Pk
attribute [local go_sem] max2_int min2_int max_two min_two
set_option linter.unusedVariables false
set_option linter.unusedSimpArgs false
set_option maxHeartbeats 8000000 in
set_option maxRecDepth 100000 in
theorem MaskPacks {W : World} (a0 : Option Addr) (cap0 : Nat) (l0 : List S56) (hl0 : l0.length ≤ cap0) (hC0 : k56.C W a0 l0.length l0) (hG0 : ∀ x ∈ l0, GF x) :
    Calls Try.prog 13 #[.slice a0 l0.length cap0] W fun e w' => e = .returned (.bool true) ∧ Below W.heap.size W w' := by
  have HC := Aside0.mk hC0
  have HG := Aside0.mk hG0
  clear hC0 hG0
  by_cases c : 500 < l0.length
  · have d1 : decide ((500 : Int) < (l0.length : Int)) = true := decide_eq_true (by omega)
    clear c
    go_enter Try.func13, Try.ntmps13
    go_wp2_with (fail)
    refine (Awake_calls _).mono ?_
    rintro e x1 ⟨rfl, hb⟩
    go_wp2_with (fail)
    go_ret
    exact ⟨rfl, hb⟩
  · have d1 : decide ((500 : Int) < (l0.length : Int)) = false := decide_eq_false (by omega)
    have hl : l0.length ≤ 500 := by omega
    clear c
    have HL := Aside0.mk hl
    clear hl
    go_enter Try.func13, Try.ntmps13
    go_wp2_with (fail)
    refine (Clone_calls a0 cap0 l0 HL.out W HC.out hl0).mono ?_
    rintro e x1 ⟨v, rfl, hR, hb⟩
    obtain ⟨A, c, rfl⟩ := Kd.R_slice hR
    have HR := Aside0.mk (Kd.R_reads' hR)
    have HB1 := Aside0.mk hb
    clear hR hb
    go_wp2_with (fail)
    obtain ⟨r, hr⟩ : ∃ r, resP (packR l0 0 0) = r := ⟨_, rfl⟩
    have HP := Aside0.mk (Pack_calls A c l0 HL.out HG.out x1 HR.out.2.2 HR.out.2.1)
    rw [hr] at HP
    refine HP.out.mono ?_
    rintro e x2 ⟨rfl, hb⟩
    have HB2 := Aside0.mk (below_step HB1.out hb)
    have HX2 := Aside0.mk hb
    clear hb
    go_wp2_with (fail)
    have HQ := Aside0.mk (RPack_calls a0 cap0 l0 x2 (Kd.C_below HC.out HB2.out) hl0 HL.out HG.out)
    rw [hr] at HQ
    refine HQ.out.mono ?_
    rintro e x3 ⟨rfl, hb⟩
    have HB3 := Aside0.mk (below_step HB2.out hb)
    have HX3 := Aside0.mk (below_step HX2.out hb)
    clear hb HP HQ hr
    go_wp2_with (fail)
    refine (Eq_calls A c a0 cap0 l0 HL.out x3 (Kd.C_below HR.out.2.2 HX3.out) HR.out.2.1 (Kd.C_below HC.out HB3.out) hl0).mono ?_
    rintro e x4 ⟨rfl, ⟨n, rfl⟩⟩
    have HB4 := Aside0.mk (pw_below_drewN HB3.out n)
    clear HB3 HX3
    generalize x3.drewN n = x4 at *
    go_wp2_with (fail)
    refine (Awake_calls x4).mono ?_
    rintro e x5 ⟨rfl, hb⟩
    have HB5 := Aside0.mk (below_step HB4.out hb)
    clear hb
    go_wp2_with (fail)
    go_ret
    exact ⟨rfl, HB5.out⟩
end Go.Proofs.Ytjkllkbdmkkndaa.Wk
