/- The fields of any word, or that it has none so: the walk of the law over the contracts of both answers. -/
import Derived.Test.YtjkllkbdmkkndaaPkO
import Derived.Test.YtjkllkbdmkkndaaPkD
namespace Go.Proofs.Ytjkllkbdmkkndaa.Wk
open Go Go.RowKit Go.Proofs.YtjkllkbdmkkndaaW.PrintWords Go.Proofs.YtjkllkbdmkkndaaW.PrintLast Go.Proofs.YtjkllkbdmkkndaaW.PrintMore Go.Proofs.Ytjkllkbdmkkndaa.Bits Go.Proofs.Ytjkllkbdmkkndaa.Ref
open Go.Proofs.Ytjkllkbdmkkndaa.PMaskUnpacks Go.Proofs.Ytjkllkbdmkkndaa.Pk
attribute [local go_sem] max2_int min2_int max_two min_two
set_option linter.unusedVariables false
set_option linter.unusedSimpArgs false
theorem unpack_len (w : Nat) : ∀ (l : List S56) (a : Nat) (acc k : List S56), unpackR w l a acc = some k → k.length = acc.length + l.length := by
  intro l
  induction l with
  | nil =>
    intro a acc k h
    rw [unpackR] at h
    by_cases c : w / 2 ^ a = 0
    · rw [if_pos c] at h; rw [← Option.some.inj h]; simp
    · rw [if_neg c] at h; cases h
  | cons f l ih =>
    intro a acc k h
    rw [unpackR] at h
    by_cases c : 1 ≤ f.f0 ∧ f.f0 ≤ 64 - (a : Int)
    · rw [if_pos c] at h
      by_cases c2 : f.f2 = false ∧ valR (w / 2 ^ a) f.f0.toNat f.f2 < 0
      · rw [if_pos c2] at h; cases h
      · rw [if_neg c2] at h
        have := ih _ _ _ h
        simp at this ⊢; omega
    · rw [if_neg c] at h; cases h
theorem resU_len (w : Nat) (l : List S56) : (resU (unpackR w l 0 [])).1.length ≤ l.length := by
  cases h : unpackR w l 0 [] with
  | none => exact Nat.zero_le _
  | some k => have := unpack_len w l 0 [] k h; simp at this; exact Nat.le_of_eq this
set_option maxHeartbeats 8000000 in
set_option maxRecDepth 100000 in
theorem MaskUnpacks {W : World} (a1 : Int) (w1 : (Lit.int .u64 a1).wf = true) (a0 : Option Addr) (cap0 : Nat) (l0 : List S56) (hl0 : l0.length ≤ cap0) (hC0 : k56.C W a0 l0.length l0) (hG0 : ∀ x ∈ l0, GF x) :
    Calls Try.prog 15 #[.int .u64 a1, .slice a0 l0.length cap0] W fun e w' => e = .returned (.bool true) ∧ Below W.heap.size W w' := by
  have ha := wf_u64 w1
  obtain ⟨z, rfl⟩ := Int.eq_ofNat_of_zero_le ha.1
  have HZ := Aside0.mk (show z < 2 ^ 64 by omega)
  have HC := Aside0.mk hC0
  clear hC0 hG0 w1 ha
  by_cases c : 500 < l0.length
  · have d1 : decide ((500 : Int) < (l0.length : Int)) = true := decide_eq_true (by omega)
    clear c
    go_enter Try.func15, Try.ntmps15
    go_wp2_with (fail)
    refine (Awake_calls _).mono ?_
    rintro e x1 ⟨rfl, hb⟩
    go_wp2_with (fail)
    go_ret
    exact ⟨rfl, hb⟩
  · have d1 : decide ((500 : Int) < (l0.length : Int)) = false := decide_eq_false (by omega)
    have hl : l0.length ≤ 500 := by omega
    clear c
    have HL := Aside0.mk hl
    clear hl
    go_enter Try.func15, Try.ntmps15
    go_wp2_with (fail)
    refine (Clone_calls a0 cap0 l0 HL.out W HC.out hl0).mono ?_
    rintro e x1 ⟨v, rfl, hR, hb⟩
    obtain ⟨A, c, rfl⟩ := Kd.R_slice hR
    have HR := Aside0.mk (Kd.R_reads' hR)
    have HB1 := Aside0.mk hb
    clear hR hb
    go_wp2_with (fail)
    have HLU := Aside0.mk (Nat.le_trans (resU_len z l0) HL.out)
    have HP := Aside0.mk (Unpack_calls z HZ.out A c l0 HL.out x1 HR.out.2.2 HR.out.2.1)
    have HQ := Aside0.mk (fun x2 (hb : Below W.heap.size W x2) => RUnpack_calls z HZ.out a0 cap0 l0 HL.out x2 (Kd.C_below HC.out hb) hl0)
    generalize resU (unpackR z l0 0 []) = r at HLU HP HQ
    obtain ⟨r1, r2⟩ := r
    refine HP.out.mono ?_
    rintro e x2 ⟨v2, rfl, hR2, hb⟩
    replace hR2 : Kd.R k56 56 x2 x1.heap.size (fun _ => True) v2 r1 := hR2
    obtain ⟨A2, c2, rfl⟩ := Kd.R_slice hR2
    have HR2 := Aside0.mk (Kd.R_reads' hR2)
    have HB2 := Aside0.mk (below_step HB1.out hb)
    have HX2 := Aside0.mk hb
    clear hb HP hR2
    go_wp2_with (fail)
    refine (HQ.out x2 HB2.out).mono ?_
    rintro e x3 ⟨v3, rfl, hR3, hb⟩
    replace hR3 : Kd.R k56 56 x3 x2.heap.size (fun _ => True) v3 r1 := hR3
    obtain ⟨A3, c3, rfl⟩ := Kd.R_slice hR3
    have HR3 := Aside0.mk (Kd.R_reads' hR3)
    have HB3 := Aside0.mk (below_step HB2.out hb)
    have HX3 := Aside0.mk (below_step HX2.out hb)
    have HY3 := Aside0.mk hb
    clear hb HQ hR3
    go_wp2_with (fail)
    refine (Eq_calls A2 c2 A3 c3 r1 HLU.out x3 (Kd.C_below HR2.out.2.2 HY3.out) HR2.out.2.1 HR3.out.2.2 HR3.out.2.1).mono ?_
    rintro e x4 ⟨rfl, ⟨n, rfl⟩⟩
    have HB4 := Aside0.mk (pw_below_drewN HB3.out n)
    have HX4 := Aside0.mk (pw_below_drewN HX3.out n)
    clear HB3 HX3 HY3 HR3
    generalize x3.drewN n = x4 at *
    go_wp2_with (fail)
    refine (Eq_calls A c a0 cap0 l0 HL.out x4 (Kd.C_below HR.out.2.2 HX4.out) HR.out.2.1 (Kd.C_below HC.out HB4.out) hl0).mono ?_
    rintro e x5 ⟨rfl, ⟨m, rfl⟩⟩
    have HB5 := Aside0.mk (pw_below_drewN HB4.out m)
    clear HB4 HX4
    generalize x4.drewN m = x5 at *
    go_wp2_with (fail)
    refine (Awake_calls x5).mono ?_
    rintro e x6 ⟨rfl, hb⟩
    have HB6 := Aside0.mk (below_step HB5.out hb)
    clear hb
    go_wp2_with (fail)
    go_ret
    exact ⟨rfl, HB6.out⟩
end Go.Proofs.Ytjkllkbdmkkndaa.Wk
