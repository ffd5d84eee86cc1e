/- What is packed is unpacked as it was, and what is unpacked is packed as it was: the walk of the law over the contracts. -/
import Derived.Test.YtjkllkbdmkkndaaPkO
namespace Go.Proofs.Ytjkllkbdmkkndaa.Wk
open Go Go.RowKit Go.Proofs.YtjkllkbdmkkndaaW.PrintWords Go.Proofs.YtjkllkbdmkkndaaW.PrintLast Go.Proofs.YtjkllkbdmkkndaaW.PrintMore Go.Proofs.Ytjkllkbdmkkndaa.Bits Go.Proofs.Ytjkllkbdmkkndaa.Ref
open Go.Proofs.Ytjkllkbdmkkndaa.PMaskUnpacks Go.Proofs.Ytjkllkbdmkkndaa.Pk
attribute [local go_sem] max2_int min2_int max_two min_two
set_option linter.unusedVariables false
set_option linter.unusedSimpArgs false
theorem stp_enc (x : Nat) : (Lit.int .u64 (x : Int)).wf = true → x < 2 ^ 64 := fun h => by have := wf_u64 h; omega
set_option maxHeartbeats 8000000 in
set_option maxRecDepth 100000 in
theorem MaskBack {W : World} (a0 : Option Addr) (cap0 : Nat) (l0 : List S56) (hl0 : l0.length ≤ cap0) (hC0 : k56.C W a0 l0.length l0) (hG0 : ∀ x ∈ l0, GF x) (a1 : Int) (w1 : (Lit.int .u64 a1).wf = true) :
    Calls Try.prog 14 #[.slice a0 l0.length cap0, .int .u64 a1] W fun e w' => e = .returned (.bool true) ∧ Below W.heap.size W w' := by
  have ha := wf_u64 w1
  obtain ⟨z, rfl⟩ := Int.eq_ofNat_of_zero_le ha.1
  have HZ := Aside0.mk (stp_enc z w1)
  have HC := Aside0.mk hC0
  have HG := Aside0.mk hG0
  clear hC0 hG0 w1 ha
  by_cases c : 500 < l0.length
  · have d1 : decide ((500 : Int) < (l0.length : Int)) = true := decide_eq_true (by omega)
    clear c
    go_enter Try.func14, Try.ntmps14
    go_wp2_with (fail)
    refine (Awake_calls _).mono ?_
    rintro e x1 ⟨rfl, hb⟩
    go_wp2_with (fail)
    go_ret
    exact ⟨rfl, hb⟩
  · have d1 : decide ((500 : Int) < (l0.length : Int)) = false := decide_eq_false (by omega)
    have hl : l0.length ≤ 500 := by omega
    clear c
    have HL := Aside0.mk hl
    clear hl
    have HP := Aside0.mk (Pack_calls a0 cap0 l0 HL.out HG.out W HC.out hl0)
    obtain ⟨r, hr⟩ : ∃ r, packR l0 0 0 = r := ⟨_, rfl⟩
    rw [hr] at HP
    have HR := Aside0.mk hr
    clear hr
    cases r with
    | none =>
      go_enter Try.func14, Try.ntmps14
      go_wp2_with (fail)
      refine HP.out.mono ?_
      rintro e x2 ⟨rfl, hb⟩
      have HB2 := Aside0.mk hb
      clear hb HP
      go_wp2_with (fail)
      have HU2 := Aside0.mk (Unpack_calls z HZ.out a0 cap0 l0 HL.out x2 (Kd.C_below HC.out HB2.out) hl0)
      obtain ⟨q, hq⟩ : ∃ q, unpackR z l0 0 [] = q := ⟨_, rfl⟩
      rw [hq] at HU2
      have HQ := Aside0.mk hq
      clear hq
      cases q with
      | none =>
        refine HU2.out.mono ?_
        rintro e x5 ⟨v, rfl, hR, hb⟩
        obtain ⟨A5, c5, rfl⟩ := Kd.R_slice hR
        have HB5 := Aside0.mk (below_step HB2.out hb)
        clear hR hb HU2
        go_wp2_with (fail)
        refine (Awake_calls x5).mono ?_
        rintro e x6 ⟨rfl, hb⟩
        have HB6 := Aside0.mk (below_step HB5.out hb)
        clear hb
        go_wp2_with (fail)
        go_ret
        exact ⟨rfl, HB6.out⟩
      | some k =>
        obtain ⟨k', hk, hkl, hGk, hpk⟩ := unpack_pack z HZ.out l0 0 [] k (by decide) HQ.out
        rw [List.nil_append] at hk
        subst hk
        rw [show z % 2 ^ 0 = 0 from Nat.mod_one z] at hpk
        have HKL := Aside0.mk (show k.length ≤ 500 by rw [hkl]; exact HL.out)
        refine HU2.out.mono ?_
        rintro e x5 ⟨v, rfl, hR, hb⟩
        replace hR : Kd.R k56 56 x5 x2.heap.size (fun _ => True) v k := hR
        obtain ⟨A5, c5, rfl⟩ := Kd.R_slice hR
        have HRK := Aside0.mk (Kd.R_reads' hR)
        have HB5 := Aside0.mk (below_step HB2.out hb)
        have HP5 := Aside0.mk (Pack_calls A5 c5 k HKL.out hGk x5 HRK.out.2.2 HRK.out.2.1)
        rw [hpk] at HP5
        clear hR hb HU2 hpk hGk hkl
        go_wp2_with (fail)
        refine HP5.out.mono ?_
        rintro e x6 ⟨rfl, hb⟩
        have HB6 := Aside0.mk (below_step HB5.out hb)
        clear hb
        go_wp2_with (fail)
        refine (Awake_calls x6).mono ?_
        rintro e x7 ⟨rfl, hb⟩
        have HB7 := Aside0.mk (below_step HB6.out hb)
        clear hb
        go_wp2_with (fail)
        go_ret
        exact ⟨rfl, HB7.out⟩
    | some x =>
      have hpu := pack_unpack l0 0 0 x [] HG.out (by decide) (by decide) HR.out
      have HX := Aside0.mk hpu.2.1
      have HU := Aside0.mk (fun w => Unpack_calls x hpu.2.1 a0 cap0 l0 HL.out w)
      rw [hpu.2.2] at HU
      clear hpu
      go_enter Try.func14, Try.ntmps14
      go_wp2_with (fail)
      refine HP.out.mono ?_
      rintro e x2 ⟨rfl, hb⟩
      have HB2 := Aside0.mk hb
      clear hb HP
      go_wp2_with (fail)
      refine (HU.out x2 (Kd.C_below HC.out HB2.out) hl0).mono ?_
      rintro e x3 ⟨v, rfl, hR, hb⟩
      obtain ⟨A, c, rfl⟩ := Kd.R_slice hR
      have HRR := Aside0.mk (Kd.R_reads' hR)
      have HB3 := Aside0.mk (below_step HB2.out hb)
      clear hR hb HU HB2
      go_wp2_with (fail)
      refine (Eq_calls A c a0 cap0 l0 HL.out x3 HRR.out.2.2 HRR.out.2.1 (Kd.C_below HC.out HB3.out) hl0).mono ?_
      rintro e x4 ⟨rfl, ⟨n, rfl⟩⟩
      have HB4 := Aside0.mk (pw_below_drewN HB3.out n)
      clear HB3 HRR
      generalize x3.drewN n = x2 at *
      have HB2 := HB4
      clear HB4
      go_wp2_with (fail)
      have HU2 := Aside0.mk (Unpack_calls z HZ.out a0 cap0 l0 HL.out x2 (Kd.C_below HC.out HB2.out) hl0)
      obtain ⟨q, hq⟩ : ∃ q, unpackR z l0 0 [] = q := ⟨_, rfl⟩
      rw [hq] at HU2
      have HQ := Aside0.mk hq
      clear hq
      cases q with
      | none =>
        refine HU2.out.mono ?_
        rintro e x5 ⟨v, rfl, hR, hb⟩
        obtain ⟨A5, c5, rfl⟩ := Kd.R_slice hR
        have HB5 := Aside0.mk (below_step HB2.out hb)
        clear hR hb HU2
        go_wp2_with (fail)
        refine (Awake_calls x5).mono ?_
        rintro e x6 ⟨rfl, hb⟩
        have HB6 := Aside0.mk (below_step HB5.out hb)
        clear hb
        go_wp2_with (fail)
        go_ret
        exact ⟨rfl, HB6.out⟩
      | some k =>
        obtain ⟨k', hk, hkl, hGk, hpk⟩ := unpack_pack z HZ.out l0 0 [] k (by decide) HQ.out
        rw [List.nil_append] at hk
        subst hk
        rw [show z % 2 ^ 0 = 0 from Nat.mod_one z] at hpk
        have HKL := Aside0.mk (show k.length ≤ 500 by rw [hkl]; exact HL.out)
        refine HU2.out.mono ?_
        rintro e x5 ⟨v, rfl, hR, hb⟩
        replace hR : Kd.R k56 56 x5 x2.heap.size (fun _ => True) v k := hR
        obtain ⟨A5, c5, rfl⟩ := Kd.R_slice hR
        have HRK := Aside0.mk (Kd.R_reads' hR)
        have HB5 := Aside0.mk (below_step HB2.out hb)
        have HP5 := Aside0.mk (Pack_calls A5 c5 k HKL.out hGk x5 HRK.out.2.2 HRK.out.2.1)
        rw [hpk] at HP5
        clear hR hb HU2 hpk hGk hkl
        go_wp2_with (fail)
        refine HP5.out.mono ?_
        rintro e x6 ⟨rfl, hb⟩
        have HB6 := Aside0.mk (below_step HB5.out hb)
        clear hb
        go_wp2_with (fail)
        refine (Awake_calls x6).mono ?_
        rintro e x7 ⟨rfl, hb⟩
        have HB7 := Aside0.mk (below_step HB6.out hb)
        clear hb
        go_wp2_with (fail)
        go_ret
        exact ⟨rfl, HB7.out⟩
end Go.Proofs.Ytjkllkbdmkkndaa.Wk
