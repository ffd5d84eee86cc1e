/- The record with which any bytes begin, or why there is none; and all of them. -/
import Derived.Test.YtleaiojilmkhaaaOpenR
namespace Go.Proofs.Ytleaiojilmkhaaa.Wk
open Go Go.RowKit Go.Proofs.YtleaiojilmkhaaaW.PrintWords Go.Proofs.YtleaiojilmkhaaaW.PrintLast Go.Proofs.YtleaiojilmkhaaaW.PrintMore Go.Proofs.Ytleaiojilmkhaaa.Wire
open Go.Proofs.Ytleaiojilmkhaaa.PWireBack (bytes_Equal.calls)
open Go.Proofs.Ytleaiojilmkhaaa.WkR (rOpen_calls rAll_calls)
set_option linter.unusedVariables false
set_option maxHeartbeats 8000000 in
set_option maxRecDepth 100000 in
theorem opens (A0 : Option Addr) (c0 : Nat) (l0 : List Int) (w : World) (hr0 : Kd.C (Kd.int .u8) w A0 l0.length l0) (hc0 : l0.length ≤ c0) (hs : Bs l0) :
    Calls Try.prog 13 #[.slice A0 l0.length c0] w fun e w' => e = .returned (.bool true) ∧ Below w.heap.size w w' := by
  have HR0 := Aside0.mk hr0
  have HC0 := Aside0.mk hc0
  have HS := Aside0.mk hs
  clear hr0 hc0 hs
  rcases Nat.lt_or_ge 16384 l0.length with h | h
  · have hb : decide (16384 < (l0.length : Int)) = true := decide_eq_true (by omega)
    clear h
    go_enter Try.func13, Try.ntmps13
    go_wp2_with (fail)
    refine (awake_any _).mono ?_
    rintro e w1 ⟨rfl, hB⟩
    have HB := Aside0.mk hB
    clear hB
    go_wp2
    go_ret
    exact ⟨rfl, HB.out⟩
  · have hb : decide (16384 < (l0.length : Int)) = false := decide_eq_false (by omega)
    have HLL := Aside0.mk (show l0.length < 140737488355328 by omega)
    have HL9 := Aside0.mk (show l0.length < 1000000000 by omega)
    clear h
    have C1 := Aside0.mk (fun W h => Open_calls A0 c0 l0 W h HC0.out HS.out HLL.out)
    have C2 := Aside0.mk (fun W h => rOpen_calls A0 c0 l0 W h HC0.out HS.out HL9.out)
    have C3 := Aside0.mk (fun W h => All_calls A0 c0 l0 W h HC0.out HS.out HL9.out)
    have C4 := Aside0.mk (fun W h => rAll_calls A0 c0 l0 W h HC0.out HS.out HL9.out)
    generalize openP l0 = q at *
    generalize allP l0 = r at *
    obtain ⟨d, n, er⟩ := q
    obtain ⟨outs, m⟩ := r
    simp only at C1 C2 C3 C4
    have HEQ := Aside0.mk (bseq d)
    go_enter Try.func13, Try.ntmps13
    go_wp2_with (fail)
    refine (C1.out _ HR0.out).mono ?_
    rintro e w1 ⟨v1, rfl, hR, hB⟩
    obtain ⟨A1, c1, rfl⟩ := Kd.R_slice hR
    have HR1 := Aside0.mk hR
    have HB1 := Aside0.mk hB
    clear hR hB
    go_wp2_with (fail)
    refine (C2.out _ (Kd.C_below HR0.out HB1.out)).mono ?_
    rintro e w2 ⟨v2, rfl, hR, hB⟩
    obtain ⟨A2, c2, rfl⟩ := Kd.R_slice hR
    have HR2 := Aside0.mk hR
    have HR12 := Aside0.mk (Kd.R_below HR1.out hB)
    have HB2 := Aside0.mk (below_step HB1.out hB)
    clear hR hB HR1 HB1
    go_wp2_with (fail)
    refine (C3.out _ (Kd.C_below HR0.out HB2.out)).mono ?_
    rintro e w3 ⟨v3, rfl, hR, hB⟩
    obtain ⟨A3, c3, rfl⟩ := Kd.R_slice hR
    have HR3 := Aside0.mk hR
    have HR13 := Aside0.mk (Kd.R_below HR12.out hB)
    have HR23 := Aside0.mk (Kd.R_below HR2.out hB)
    have HB3 := Aside0.mk (below_step HB2.out hB)
    clear hR hB HR12 HR2 HB2
    go_wp2_with (fail)
    refine (C4.out _ (Kd.C_below HR0.out HB3.out)).mono ?_
    rintro e w4 ⟨v4, rfl, hR, hB⟩
    obtain ⟨A4, c4, rfl⟩ := Kd.R_slice hR
    have HR4 := Aside0.mk (Kd.R_reads' hR)
    have HR14 := Aside0.mk (Kd.R_reads' (Kd.R_below HR13.out hB))
    have HR24 := Aside0.mk (Kd.R_reads' (Kd.R_below HR23.out hB))
    have HR34 := Aside0.mk (Kd.R_reads' (Kd.R_below HR3.out hB))
    have HB4 := Aside0.mk (below_step HB3.out hB)
    clear hR hB HR13 HR23 HR3 HB3
    go_wp2_with (fail)
    refine (bytes_Equal.calls A1 c1 d A2 c2 d true _ HR14.out.2.2 HR14.out.2.1 HR24.out.2.2 HR24.out.2.1 HEQ.out).mono ?_
    rintro e w5 ⟨rfl, hdr⟩
    have HB5 := Aside0.mk (below_step HB4.out hdr.below)
    have HR35 := Aside0.mk (Kd.C_below HR34.out.2.2 hdr.below)
    have HR45 := Aside0.mk (Kd.C_below HR4.out.2.2 hdr.below)
    clear hdr
    go_wp2_with (fail)
    refine (EqualFunc_same A3 c3 outs A4 c4 _ HR35.out HR45.out).mono ?_
    rintro e w6 ⟨rfl, hdr⟩
    have HB6 := Aside0.mk (below_step HB5.out hdr.below)
    clear hdr
    go_wp2_with (fail)
    refine (awake_any _).mono ?_
    rintro e w7 ⟨rfl, hB⟩
    have HB7 := Aside0.mk (below_step HB6.out hB)
    clear hB
    go_wp2
    go_ret
    exact ⟨rfl, HB7.out⟩
theorem WireOpens {W : World} (a0 : Option Addr) (cap0 : Nat) (l0 : List Int) (hl0 : l0.length ≤ cap0) (hC0 : Kd.C (Kd.int .u8) W a0 l0.length l0) (hG0 : ∀ z ∈ l0, (Lit.int .u8 z).wf = true) :
    Calls Try.prog 13 #[.slice a0 l0.length cap0] W fun e w' => e = .returned (.bool true) ∧ Below W.heap.size W w' :=
  opens a0 cap0 l0 W hC0 hl0 (fun z hz => wf_u8 (hG0 z hz))
end Go.Proofs.Ytleaiojilmkhaaa.Wk
