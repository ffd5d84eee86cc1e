/- Contract of the reference's Reader.Bytes. -/
import Derived.Test.YtleaiojilmkhaaaPlainR
import Derived.Test.YtleaiojilmkhaaaReadBytes
namespace Go.Proofs.Ytleaiojilmkhaaa.Wire
open Go Go.RowKit Go.Proofs.YtleaiojilmkhaaaW.PrintWords Go.Proofs.YtleaiojilmkhaaaW.PrintLast Go.Proofs.YtleaiojilmkhaaaW.PrintMore
open Go.Proofs.Ytleaiojilmkhaaa.WBase (IsS71 towlineref01_Reader_Number.f towlineref01_Reader_Number.calls cellS71_0 cellS71_1 cellS71_2)
attribute [local go_sem] max2_int min2_int max_two min_two
set_option linter.unusedVariables false
set_option linter.unusedSimpArgs false

set_option maxHeartbeats 8000000 in
set_option maxRecDepth 100000 in
theorem rBytes_calls (g : Nat) (s : List Int) (at_ : Nat) (most : Int) (hmost : -9223372036854775808 ≤ most ∧ most ≤ 9223372036854775807) (w0 w : World) (hI : IsS71 w0 w g s (at_ : Int) 0) (hB : Below w0.heap.size w0 w) (hs : Bs s) (hlen : s.length < 140737488355328) (hat : at_ ≤ s.length) :
    Calls Try.prog 51 #[.pointer (some ⟨g, 0, none⟩), .int .i64 most] w fun e w' => ∃ v, e = .returned v ∧ Kd.R (Kd.int .u8) 5 w' w.heap.size (fun k => k ≠ g) v (bytesP s at_ most).1 ∧ IsS71 w0 w' g s ((bytesP s at_ most).2.1 : Int) (bytesP s at_ most).2.2 ∧ Below w0.heap.size w0 w' ∧ KeepBut w w' g none := by
  have HI := Aside0.mk hI
  have HK := Aside0.mk (KeepBut.refl w g none)
  have HB := Aside0.mk hB
  have HSB := Aside0.mk hs
  have hN := rNumber_eq s hs hlen at_ hat 36 (by decide)
  have hok := numGo_ok (s.drop at_) 0 0
  have hlt := numGo_lt (s.drop at_) 0 0 (by decide) (by decide)
  rw [show numGo 0 0 (s.drop at_) = num (s.drop at_) from rfl] at hok hlt
  unfold bytesP
  generalize num (s.drop at_) = q at *
  obtain ⟨n, c, e⟩ := q
  simp only at hN hok hlt ⊢
  have HLT := Aside0.mk hlt
  clear hI hB hs hlt
  by_cases c0 : e = 0
  · subst c0
    obtain ⟨p, hp⟩ : ∃ p : Nat, at_ + c = p := ⟨_, rfl⟩
    replace hN : towlineref01_Reader_Number.f 36 s (at_ : Int) 0 = some ((n : Int), (p : Int), 0) := by rw [← hp]; exact hN
    rw [hp]
    have HN := Aside0.mk hN
    obtain ⟨hcl, hcp⟩ := hok rfl
    rw [List.length_drop] at hcl
    clear hok hN
    simp only [ne_eq, not_true_eq_false, if_false]
    obtain ⟨M, hMX⟩ : ∃ M : Int, (if most < 0 then (0 : Int) else most) = M := ⟨_, rfl⟩
    have hM0 : 0 ≤ M ∧ M < 18446744073709551616 := by rw [← hMX]; split <;> omega
    have hw1 : IntKind.u64.wrap M = M := by rw [wrap_u64']; omega
    rw [hMX]
    clear hmost
    by_cases c1 : M < (n : Int)
    · rw [if_pos c1]
      have c1b : decide (M < (n : Int)) = true := decide_eq_true c1
      have HC1 := Aside0.mk c1; (try have HC2 := Aside0.mk c2); have HM0 := Aside0.mk hM0; have HLN := Aside0.mk hlen; have HAT := Aside0.mk hat; have HCL := Aside0.mk hcl; have HP := Aside0.mk hp; clear c1 hM0 hlen hat hcl hcp hp; (try clear c2)
      go_enter Try.func51, Try.ntmps51
      obtain ⟨AS, cS, HG, hg, HS⟩ := HI.out; have hc_0 := cellS71_0 HG; have hc_1 := cellS71_1 HG; have hc_2 := cellS71_2 HG; have hf_1 := blk_frozen HG 1; have hf_2 := blk_frozen HG 2; clear hg HG
      go_wp2_with (first | (go_at_call 52; (with_reducible refine (towlineref01_Reader_Number.calls 36 g s _ _ _ _ _ w0 _ (by repeat (first | (with_reducible first | exact HI.out | apply IsS71.alloc | apply IsS71.drewN | apply IsS71.drew | apply IsS71.set_1 | apply IsS71.set_2) | exact HI.out)) (by repeat (first | (with_reducible first | exact HB.out | apply below_alloc | apply pw_below_drewN | apply below_drew1 | refine below_set ?_ (IsS71.ge HI.out)) | exact HB.out)) HN.out).mono ?_); rintro e w4 ⟨rfl, hi, hb, hk⟩; have n0_ := Aside0.mk (KeepBut.trans (by repeat (first | (with_reducible first | exact HK.out | apply KeepBut.set_ | apply keep_drewN | apply keep_drew | apply keep_alloc) | exact HK.out)) hk (.inl rfl)); have n1_ := Aside0.mk hb; have n2_ := Aside0.mk hi; clear HK; clear HB; clear HI; have HK := n0_; have HB := n1_; have HI := n2_; clear n0_ n1_ n2_; (try clear hb); (try clear hk); (try clear hi); (try clear hc_0); (try clear hc_1); (try clear hc_2); (try clear hf_1); (try clear hf_2); (try clear HS); (try clear cS); (try clear AS); obtain ⟨AS, cS, HG, hg, HS⟩ := HI.out; have hc_0 := cellS71_0 HG; have hc_1 := cellS71_1 HG; have hc_2 := cellS71_2 HG; have hf_1 := blk_frozen HG 1; have hf_2 := blk_frozen HG 2; clear hg HG)); repeat (go_quiet (first | (go_at_call 52; (with_reducible refine (towlineref01_Reader_Number.calls 36 g s _ _ _ _ _ w0 _ (by repeat (first | (with_reducible first | exact HI.out | apply IsS71.alloc | apply IsS71.drewN | apply IsS71.drew | apply IsS71.set_1 | apply IsS71.set_2) | exact HI.out)) (by repeat (first | (with_reducible first | exact HB.out | apply below_alloc | apply pw_below_drewN | apply below_drew1 | refine below_set ?_ (IsS71.ge HI.out)) | exact HB.out)) HN.out).mono ?_); rintro e w4 ⟨rfl, hi, hb, hk⟩; have n0_ := Aside0.mk (KeepBut.trans (by repeat (first | (with_reducible first | exact HK.out | apply KeepBut.set_ | apply keep_drewN | apply keep_drew | apply keep_alloc) | exact HK.out)) hk (.inl rfl)); have n1_ := Aside0.mk hb; have n2_ := Aside0.mk hi; clear HK; clear HB; clear HI; have HK := n0_; have HB := n1_; have HI := n2_; clear n0_ n1_ n2_; (try clear hb); (try clear hk); (try clear hi); (try clear hc_0); (try clear hc_1); (try clear hc_2); (try clear hf_1); (try clear hf_2); (try clear HS); (try clear cS); (try clear AS); obtain ⟨AS, cS, HG, hg, HS⟩ := HI.out; have hc_0 := cellS71_0 HG; have hc_1 := cellS71_1 HG; have hc_2 := cellS71_2 HG; have hf_1 := blk_frozen HG 1; have hf_2 := blk_frozen HG 2; clear hg HG)); try go_wp2_with (first | (go_at_call 52; (with_reducible refine (towlineref01_Reader_Number.calls 36 g s _ _ _ _ _ w0 _ (by repeat (first | (with_reducible first | exact HI.out | apply IsS71.alloc | apply IsS71.drewN | apply IsS71.drew | apply IsS71.set_1 | apply IsS71.set_2) | exact HI.out)) (by repeat (first | (with_reducible first | exact HB.out | apply below_alloc | apply pw_below_drewN | apply below_drew1 | refine below_set ?_ (IsS71.ge HI.out)) | exact HB.out)) HN.out).mono ?_); rintro e w4 ⟨rfl, hi, hb, hk⟩; have n0_ := Aside0.mk (KeepBut.trans (by repeat (first | (with_reducible first | exact HK.out | apply KeepBut.set_ | apply keep_drewN | apply keep_drew | apply keep_alloc) | exact HK.out)) hk (.inl rfl)); have n1_ := Aside0.mk hb; have n2_ := Aside0.mk hi; clear HK; clear HB; clear HI; have HK := n0_; have HB := n1_; have HI := n2_; clear n0_ n1_ n2_; (try clear hb); (try clear hk); (try clear hi); (try clear hc_0); (try clear hc_1); (try clear hc_2); (try clear hf_1); (try clear hf_2); (try clear HS); (try clear cS); (try clear AS); obtain ⟨AS, cS, HG, hg, HS⟩ := HI.out; have hc_0 := cellS71_0 HG; have hc_1 := cellS71_1 HG; have hc_2 := cellS71_2 HG; have hf_1 := blk_frozen HG 1; have hf_2 := blk_frozen HG 2; clear hg HG)))
      go_ret
      exact ⟨_, rfl, Kd.R_nil _ _ _ _ _, by repeat (first | (with_reducible first | exact HI.out | apply IsS71.alloc | apply IsS71.drewN | apply IsS71.drew | apply IsS71.set_1 | apply IsS71.set_2) | exact HI.out), by repeat (first | (with_reducible first | exact HB.out | apply below_alloc | apply pw_below_drewN | apply below_drew1 | refine below_set ?_ (IsS71.ge HI.out)) | exact HB.out), by repeat (first | (with_reducible first | exact HK.out | apply KeepBut.set_ | apply keep_drewN | apply keep_drew | apply keep_alloc) | exact HK.out)⟩
    · rw [if_neg c1]
      have c1b : decide (M < (n : Int)) = false := decide_eq_false c1
      have hw2 : wrap64 ((s.length : Int) - (p : Int)) = (s.length : Int) - (p : Int) := by unfold wrap64; omega
      have hw3 : IntKind.u64.wrap ((s.length : Int) - (p : Int)) = (s.length : Int) - (p : Int) := by rw [wrap_u64']; omega
      by_cases c2 : s.length < p + n
      · rw [if_pos c2]
        have c2b : decide ((s.length : Int) - (p : Int) < (n : Int)) = true := decide_eq_true (by omega)
        have HC1 := Aside0.mk c1; (try have HC2 := Aside0.mk c2); have HM0 := Aside0.mk hM0; have HLN := Aside0.mk hlen; have HAT := Aside0.mk hat; have HCL := Aside0.mk hcl; have HP := Aside0.mk hp; clear c1 hM0 hlen hat hcl hcp hp; (try clear c2)
        go_enter Try.func51, Try.ntmps51
        obtain ⟨AS, cS, HG, hg, HS⟩ := HI.out; have hc_0 := cellS71_0 HG; have hc_1 := cellS71_1 HG; have hc_2 := cellS71_2 HG; have hf_1 := blk_frozen HG 1; have hf_2 := blk_frozen HG 2; clear hg HG
        go_wp2_with (first | (go_at_call 52; (with_reducible refine (towlineref01_Reader_Number.calls 36 g s _ _ _ _ _ w0 _ (by repeat (first | (with_reducible first | exact HI.out | apply IsS71.alloc | apply IsS71.drewN | apply IsS71.drew | apply IsS71.set_1 | apply IsS71.set_2) | exact HI.out)) (by repeat (first | (with_reducible first | exact HB.out | apply below_alloc | apply pw_below_drewN | apply below_drew1 | refine below_set ?_ (IsS71.ge HI.out)) | exact HB.out)) HN.out).mono ?_); rintro e w4 ⟨rfl, hi, hb, hk⟩; have n0_ := Aside0.mk (KeepBut.trans (by repeat (first | (with_reducible first | exact HK.out | apply KeepBut.set_ | apply keep_drewN | apply keep_drew | apply keep_alloc) | exact HK.out)) hk (.inl rfl)); have n1_ := Aside0.mk hb; have n2_ := Aside0.mk hi; clear HK; clear HB; clear HI; have HK := n0_; have HB := n1_; have HI := n2_; clear n0_ n1_ n2_; (try clear hb); (try clear hk); (try clear hi); (try clear hc_0); (try clear hc_1); (try clear hc_2); (try clear hf_1); (try clear hf_2); (try clear HS); (try clear cS); (try clear AS); obtain ⟨AS, cS, HG, hg, HS⟩ := HI.out; have hc_0 := cellS71_0 HG; have hc_1 := cellS71_1 HG; have hc_2 := cellS71_2 HG; have hf_1 := blk_frozen HG 1; have hf_2 := blk_frozen HG 2; clear hg HG)); repeat (go_quiet (first | (go_at_call 52; (with_reducible refine (towlineref01_Reader_Number.calls 36 g s _ _ _ _ _ w0 _ (by repeat (first | (with_reducible first | exact HI.out | apply IsS71.alloc | apply IsS71.drewN | apply IsS71.drew | apply IsS71.set_1 | apply IsS71.set_2) | exact HI.out)) (by repeat (first | (with_reducible first | exact HB.out | apply below_alloc | apply pw_below_drewN | apply below_drew1 | refine below_set ?_ (IsS71.ge HI.out)) | exact HB.out)) HN.out).mono ?_); rintro e w4 ⟨rfl, hi, hb, hk⟩; have n0_ := Aside0.mk (KeepBut.trans (by repeat (first | (with_reducible first | exact HK.out | apply KeepBut.set_ | apply keep_drewN | apply keep_drew | apply keep_alloc) | exact HK.out)) hk (.inl rfl)); have n1_ := Aside0.mk hb; have n2_ := Aside0.mk hi; clear HK; clear HB; clear HI; have HK := n0_; have HB := n1_; have HI := n2_; clear n0_ n1_ n2_; (try clear hb); (try clear hk); (try clear hi); (try clear hc_0); (try clear hc_1); (try clear hc_2); (try clear hf_1); (try clear hf_2); (try clear HS); (try clear cS); (try clear AS); obtain ⟨AS, cS, HG, hg, HS⟩ := HI.out; have hc_0 := cellS71_0 HG; have hc_1 := cellS71_1 HG; have hc_2 := cellS71_2 HG; have hf_1 := blk_frozen HG 1; have hf_2 := blk_frozen HG 2; clear hg HG)); try go_wp2_with (first | (go_at_call 52; (with_reducible refine (towlineref01_Reader_Number.calls 36 g s _ _ _ _ _ w0 _ (by repeat (first | (with_reducible first | exact HI.out | apply IsS71.alloc | apply IsS71.drewN | apply IsS71.drew | apply IsS71.set_1 | apply IsS71.set_2) | exact HI.out)) (by repeat (first | (with_reducible first | exact HB.out | apply below_alloc | apply pw_below_drewN | apply below_drew1 | refine below_set ?_ (IsS71.ge HI.out)) | exact HB.out)) HN.out).mono ?_); rintro e w4 ⟨rfl, hi, hb, hk⟩; have n0_ := Aside0.mk (KeepBut.trans (by repeat (first | (with_reducible first | exact HK.out | apply KeepBut.set_ | apply keep_drewN | apply keep_drew | apply keep_alloc) | exact HK.out)) hk (.inl rfl)); have n1_ := Aside0.mk hb; have n2_ := Aside0.mk hi; clear HK; clear HB; clear HI; have HK := n0_; have HB := n1_; have HI := n2_; clear n0_ n1_ n2_; (try clear hb); (try clear hk); (try clear hi); (try clear hc_0); (try clear hc_1); (try clear hc_2); (try clear hf_1); (try clear hf_2); (try clear HS); (try clear cS); (try clear AS); obtain ⟨AS, cS, HG, hg, HS⟩ := HI.out; have hc_0 := cellS71_0 HG; have hc_1 := cellS71_1 HG; have hc_2 := cellS71_2 HG; have hf_1 := blk_frozen HG 1; have hf_2 := blk_frozen HG 2; clear hg HG)))
        go_ret
        exact ⟨_, rfl, Kd.R_nil _ _ _ _ _, by repeat (first | (with_reducible first | exact HI.out | apply IsS71.alloc | apply IsS71.drewN | apply IsS71.drew | apply IsS71.set_1 | apply IsS71.set_2) | exact HI.out), by repeat (first | (with_reducible first | exact HB.out | apply below_alloc | apply pw_below_drewN | apply below_drew1 | refine below_set ?_ (IsS71.ge HI.out)) | exact HB.out), by repeat (first | (with_reducible first | exact HK.out | apply KeepBut.set_ | apply keep_drewN | apply keep_drew | apply keep_alloc) | exact HK.out)⟩
      · rw [if_neg c2]
        have c2b : decide ((s.length : Int) - (p : Int) < (n : Int)) = false := decide_eq_false (by omega)
        obtain ⟨z, hz⟩ : ∃ z : Nat, p + n = z := ⟨_, rfl⟩
        rw [hz]
        have hw4 : wrap64 ((p : Int) + (n : Int)) = (z : Int) := wrap64_sum hz (by clear hw1 hw2 hw3; omega)
        have hw5 : wrap64 (n : Int) = (n : Int) := wrap64_nat (by clear hw1 hw2 hw3 hw4; omega)
        have hw6 : wrap64 ((z : Int) - (n : Int)) = (p : Int) := wrap64_dif hz (by clear hw1 hw2 hw3 hw4 hw5; omega)
        have HZ := Aside0.mk (show p + n = z ∧ z ≤ s.length by clear hw1 hw2 hw3 hw4 hw5 hw6; omega)
        clear hz
        have HC1 := Aside0.mk c1; (try have HC2 := Aside0.mk c2); have HM0 := Aside0.mk hM0; have HLN := Aside0.mk hlen; have HAT := Aside0.mk hat; have HCL := Aside0.mk hcl; have HP := Aside0.mk hp; clear c1 hM0 hlen hat hcl hcp hp; (try clear c2)
        go_enter Try.func51, Try.ntmps51
        obtain ⟨AS, cS, HG, hg, HS⟩ := HI.out; have hc_0 := cellS71_0 HG; have hc_1 := cellS71_1 HG; have hc_2 := cellS71_2 HG; have hf_1 := blk_frozen HG 1; have hf_2 := blk_frozen HG 2; clear hg HG
        go_wp2_with (first | (go_at_call 52; (with_reducible refine (towlineref01_Reader_Number.calls 36 g s _ _ _ _ _ w0 _ (by repeat (first | (with_reducible first | exact HI.out | apply IsS71.alloc | apply IsS71.drewN | apply IsS71.drew | apply IsS71.set_1 | apply IsS71.set_2) | exact HI.out)) (by repeat (first | (with_reducible first | exact HB.out | apply below_alloc | apply pw_below_drewN | apply below_drew1 | refine below_set ?_ (IsS71.ge HI.out)) | exact HB.out)) HN.out).mono ?_); rintro e w4 ⟨rfl, hi, hb, hk⟩; have n0_ := Aside0.mk (KeepBut.trans (by repeat (first | (with_reducible first | exact HK.out | apply KeepBut.set_ | apply keep_drewN | apply keep_drew | apply keep_alloc) | exact HK.out)) hk (.inl rfl)); have n1_ := Aside0.mk hb; have n2_ := Aside0.mk hi; clear HK; clear HB; clear HI; have HK := n0_; have HB := n1_; have HI := n2_; clear n0_ n1_ n2_; (try clear hb); (try clear hk); (try clear hi); (try clear hc_0); (try clear hc_1); (try clear hc_2); (try clear hf_1); (try clear hf_2); (try clear HS); (try clear cS); (try clear AS); obtain ⟨AS, cS, HG, hg, HS⟩ := HI.out; have hc_0 := cellS71_0 HG; have hc_1 := cellS71_1 HG; have hc_2 := cellS71_2 HG; have hf_1 := blk_frozen HG 1; have hf_2 := blk_frozen HG 2; clear hg HG)); repeat (go_quiet (first | (go_at_call 52; (with_reducible refine (towlineref01_Reader_Number.calls 36 g s _ _ _ _ _ w0 _ (by repeat (first | (with_reducible first | exact HI.out | apply IsS71.alloc | apply IsS71.drewN | apply IsS71.drew | apply IsS71.set_1 | apply IsS71.set_2) | exact HI.out)) (by repeat (first | (with_reducible first | exact HB.out | apply below_alloc | apply pw_below_drewN | apply below_drew1 | refine below_set ?_ (IsS71.ge HI.out)) | exact HB.out)) HN.out).mono ?_); rintro e w4 ⟨rfl, hi, hb, hk⟩; have n0_ := Aside0.mk (KeepBut.trans (by repeat (first | (with_reducible first | exact HK.out | apply KeepBut.set_ | apply keep_drewN | apply keep_drew | apply keep_alloc) | exact HK.out)) hk (.inl rfl)); have n1_ := Aside0.mk hb; have n2_ := Aside0.mk hi; clear HK; clear HB; clear HI; have HK := n0_; have HB := n1_; have HI := n2_; clear n0_ n1_ n2_; (try clear hb); (try clear hk); (try clear hi); (try clear hc_0); (try clear hc_1); (try clear hc_2); (try clear hf_1); (try clear hf_2); (try clear HS); (try clear cS); (try clear AS); obtain ⟨AS, cS, HG, hg, HS⟩ := HI.out; have hc_0 := cellS71_0 HG; have hc_1 := cellS71_1 HG; have hc_2 := cellS71_2 HG; have hf_1 := blk_frozen HG 1; have hf_2 := blk_frozen HG 2; clear hg HG)); try go_wp2_with (first | (go_at_call 52; (with_reducible refine (towlineref01_Reader_Number.calls 36 g s _ _ _ _ _ w0 _ (by repeat (first | (with_reducible first | exact HI.out | apply IsS71.alloc | apply IsS71.drewN | apply IsS71.drew | apply IsS71.set_1 | apply IsS71.set_2) | exact HI.out)) (by repeat (first | (with_reducible first | exact HB.out | apply below_alloc | apply pw_below_drewN | apply below_drew1 | refine below_set ?_ (IsS71.ge HI.out)) | exact HB.out)) HN.out).mono ?_); rintro e w4 ⟨rfl, hi, hb, hk⟩; have n0_ := Aside0.mk (KeepBut.trans (by repeat (first | (with_reducible first | exact HK.out | apply KeepBut.set_ | apply keep_drewN | apply keep_drew | apply keep_alloc) | exact HK.out)) hk (.inl rfl)); have n1_ := Aside0.mk hb; have n2_ := Aside0.mk hi; clear HK; clear HB; clear HI; have HK := n0_; have HB := n1_; have HI := n2_; clear n0_ n1_ n2_; (try clear hb); (try clear hk); (try clear hi); (try clear hc_0); (try clear hc_1); (try clear hc_2); (try clear hf_1); (try clear hf_2); (try clear HS); (try clear cS); (try clear AS); obtain ⟨AS, cS, HG, hg, HS⟩ := HI.out; have hc_0 := cellS71_0 HG; have hc_1 := cellS71_1 HG; have hc_2 := cellS71_2 HG; have hf_1 := blk_frozen HG 1; have hf_2 := blk_frozen HG 2; clear hg HG)))
        refine with_world (fun w' => IsS71 w0 w' g s (p : Int) 0 ∧ Below w0.heap.size w0 w' ∧ KeepBut w w' g none) ⟨by repeat (first | (with_reducible first | exact HI.out | apply IsS71.alloc | apply IsS71.drewN | apply IsS71.drew | apply IsS71.set_1 | apply IsS71.set_2) | exact HI.out), by repeat (first | (with_reducible first | exact HB.out | apply below_alloc | apply pw_below_drewN | apply below_drew1 | refine below_set ?_ (IsS71.ge HI.out)) | exact HB.out), by repeat (first | (with_reducible first | exact HK.out | apply KeepBut.set_ | apply keep_drewN | apply keep_drew | apply keep_alloc) | exact HK.out)⟩ ?_
        (try clear hc_0); (try clear hc_1); (try clear hc_2); (try clear hf_1); (try clear hf_2); (try clear HS); (try clear cS); (try clear AS)
        clear HI HB HK
        rintro w5 ⟨hI, hB, hK⟩
        have HI := Aside0.mk hI
        have HB := Aside0.mk hB
        have HK := Aside0.mk hK
        have HBB := Aside0.mk (Below.refl w5.heap.size w5)
        clear hI hB hK
        obtain ⟨AS, cS, HG, hg, HS⟩ := HI.out; have hc_0 := cellS71_0 HG; have hc_1 := cellS71_1 HG; have hc_2 := cellS71_2 HG; have hf_1 := blk_frozen HG 1; have hf_2 := blk_frozen HG 2; clear hg HG
        obtain ⟨A1, c1, hcut, hC1x, hC1l⟩ := cut_bytes AS cS s p n z HS.1 HS.2 HZ.out.1 HZ.out.2
        have HLY := Aside0.mk (show ((s.drop p).take n).length ≤ s.length by rw [List.length_take, List.length_drop]; omega)
        generalize hyy : (s.drop p).take n = y at HLY hcut hC1x hC1l
        have HYY := Aside0.mk hyy
        clear hyy
        have HC1x := Aside0.mk hC1x
        have HC1l := Aside0.mk hC1l
        clear hC1x hC1l HS
        obtain ⟨y1, Ny1⟩ : ∃ y_ : List Int, Aside0 (y_ = ([] : List Int)) := ⟨_, ⟨rfl⟩⟩
        have LMy := Aside0.mk (show y1.length + y.length < 140737488355328 by have h1 := HLN.out; have h2 := HLY.out; rw [Ny1.out]; simp only [List.length_nil]; omega)
        have Ny2 := Aside0.mk (show y = y1 ++ y by rw [Ny1.out]; rfl)
        refine start_ (n := 19) (S := fun w' => w'.cell? ⟨g, 0, none⟩ = some (.slice AS s.length cS) ∧ w'.cell? ⟨g, 1, none⟩ = some (.int .i64 (p : Int))) (ds := []) #[false, false, false, false, false, false, false, false, false, false, false, false, false, false, false, false, false, false, false] (by kernel_rfl) rfl rfl ⟨hc_0, hc_1⟩ (fun hHeld => ?_)
        refine pure_ (i := 1) (N := some 52) (v := ?_) (a' := ?_) #[false, true, false, false, false, false, false, false, false, false, false, false, false, false, false, false, false, false, false] rfl rfl (by kernel_rfl) (fun _ _ _ h => h) (Or.inl ⟨by rfl, ?_⟩) ?_ ?_
        rotate_left
        · intro w'
          go_simp
          with_reducible rfl
        rotate_left
        · simp only [Act.put, List.setIfInBounds_toArray, List.set_cons_zero, List.set_cons_succ, i64_w, i32_w]
          rfl
        refine pure_ (i := 2) (N := some 53) (v := ?_) (a' := ?_) #[false, true, true, false, false, false, false, false, false, false, false, false, false, false, false, false, false, false, false] rfl rfl (by kernel_rfl) (fun _ _ _ h => h) (Or.inl ⟨by rfl, ?_⟩) ?_ ?_
        rotate_left
        · intro w'
          go_simp
          with_reducible rfl
        rotate_left
        · simp only [Act.put, List.setIfInBounds_toArray, List.set_cons_zero, List.set_cons_succ, i64_w, i32_w]
          rfl
        refine pure_ (i := 3) (N := some 54) (v := ?_) (a' := ?_) #[false, true, true, true, false, false, false, false, false, false, false, false, false, false, false, false, false, false, false] rfl rfl (by kernel_rfl) (fun _ _ _ h => h) (Or.inl ⟨by rfl, ?_⟩) ?_ ?_
        rotate_left
        · intro w'
          go_simp
          with_reducible rfl
        rotate_left
        · simp only [Act.put, List.setIfInBounds_toArray, List.set_cons_zero, List.set_cons_succ, i64_w, i32_w]
          rfl
        refine pure_ (i := 5) (N := some 56) (v := ?_) (a' := ?_) #[false, true, true, true, false, true, false, false, false, false, false, false, false, false, false, false, false, false, false] rfl rfl (by kernel_rfl) (fun _ _ _ h => h) (Or.inl ⟨by rfl, ?_⟩) ?_ ?_
        rotate_left
        · intro w'
          go_simp
          with_reducible rfl
        rotate_left
        · simp only [Act.put, List.setIfInBounds_toArray, List.set_cons_zero, List.set_cons_succ, i64_w, i32_w]
          rfl
        refine pure_ (i := 6) (N := some 57) (v := ?_) (a' := ?_) #[false, true, true, true, false, true, true, false, false, false, false, false, false, false, false, false, false, false, false] rfl rfl (by kernel_rfl) (fun _ _ _ h => h) (Or.inl ⟨by rfl, ?_⟩) ?_ ?_
        rotate_left
        · intro w'
          go_simp
          with_reducible rfl
        rotate_left
        · simp only [Act.put, List.setIfInBounds_toArray, List.set_cons_zero, List.set_cons_succ, i64_w, i32_w]
          rfl
        refine pure_ (i := 7) (N := some 58) (v := ?_) (a' := ?_) #[false, true, true, true, false, true, true, true, false, false, false, false, false, false, false, false, false, false, false] rfl rfl (by kernel_rfl) (fun _ _ _ h => h) (Or.inl ⟨by rfl, ?_⟩) ?_ ?_
        rotate_left
        · intro w'
          go_simp
          with_reducible rfl
        rotate_left
        · simp only [Act.put, List.setIfInBounds_toArray, List.set_cons_zero, List.set_cons_succ, i64_w, i32_w]
          rfl
        refine pure_ (i := 9) (N := some 60) (v := ?_) (a' := ?_) #[false, true, true, true, false, true, true, true, false, true, false, false, false, false, false, false, false, false, false] rfl rfl (by kernel_rfl) (fun _ _ _ h => h) (Or.inl ⟨by rfl, ?_⟩) ?_ ?_
        rotate_left
        · intro w'
          go_simp
          with_reducible rfl
        rotate_left
        · simp only [Act.put, List.setIfInBounds_toArray, List.set_cons_zero, List.set_cons_succ, i64_w, i32_w]
          rfl
        refine pure_ (i := 10) (N := some 61) (v := ?_) (a' := ?_) #[false, true, true, true, false, true, true, true, false, true, true, false, false, false, false, false, false, false, false] rfl rfl (by kernel_rfl) (fun _ _ _ h => h) (Or.inl ⟨by rfl, ?_⟩) ?_ ?_
        rotate_left
        · intro w'
          go_simp
          with_reducible rfl
        rotate_left
        · simp only [Act.put, List.setIfInBounds_toArray, List.set_cons_zero, List.set_cons_succ, i64_w, i32_w]
          rfl
        refine pure_ (i := 11) (N := some 62) (v := ?_) (a' := ?_) #[false, true, true, true, false, true, true, true, false, true, true, true, false, false, false, false, false, false, false] rfl rfl (by kernel_rfl) (fun _ _ _ h => h) (Or.inl ⟨by rfl, ?_⟩) ?_ ?_
        rotate_left
        · intro w'
          go_simp
          with_reducible rfl
        rotate_left
        · simp only [Act.put, List.setIfInBounds_toArray, List.set_cons_zero, List.set_cons_succ, i64_w, i32_w]
          rfl
        refine pure_ (i := 13) (N := some 64) (v := ?_) (a' := ?_) #[false, true, true, true, false, true, true, true, false, true, true, true, false, true, false, false, false, false, false] rfl rfl (by kernel_rfl) (fun _ _ _ h => h) (Or.inl ⟨by rfl, ?_⟩) ?_ ?_
        rotate_left
        · intro w'
          go_simp
          with_reducible rfl
        rotate_left
        · simp only [Act.put, List.setIfInBounds_toArray, List.set_cons_zero, List.set_cons_succ, i64_w, i32_w]
          rfl
        refine pure_ (i := 14) (N := some 65) (v := ?_) (a' := ?_) #[false, true, true, true, false, true, true, true, false, true, true, true, false, true, true, false, false, false, false] rfl rfl (by kernel_rfl) (fun _ _ _ h => h) (Or.inl ⟨by rfl, ?_⟩) ?_ ?_
        rotate_left
        · intro w'
          go_simp
          with_reducible rfl
        rotate_left
        · simp only [Act.put, List.setIfInBounds_toArray, List.set_cons_zero, List.set_cons_succ, i64_w, i32_w]
          rfl
        refine take_ (i := 4) (N := some 55) (v := ?_) (a' := ?_) #[false, true, true, true, true, true, true, true, false, true, true, true, false, true, true, false, false, false, false] rfl rfl (by kernel_rfl) (fun _ _ _ h => h) (Or.inl ⟨by rfl, ?_⟩) hHeld ?_ ?_
        rotate_left
        · rintro w' ⟨s0, s1⟩
          go_simp
          with_reducible rfl
        rotate_left
        · simp only [Act.put, List.setIfInBounds_toArray, List.set_cons_zero, List.set_cons_succ, i64_w, i32_w]
          rfl
        refine take_ (i := 8) (N := some 59) (v := ?_) (a' := ?_) #[false, true, true, true, true, true, true, true, true, true, true, true, false, true, true, false, false, false, false] rfl rfl (by kernel_rfl) (fun _ _ _ h => h) (Or.inl ⟨by rfl, ?_⟩) hHeld ?_ ?_
        rotate_left
        · rintro w' ⟨s0, s1⟩
          go_simp
          with_reducible rfl
        rotate_left
        · simp only [Act.put, List.setIfInBounds_toArray, List.set_cons_zero, List.set_cons_succ, i64_w, i32_w]
          rfl
        refine take_ (i := 12) (N := some 63) (v := ?_) (a' := ?_) #[false, true, true, true, true, true, true, true, true, true, true, true, true, true, true, false, false, false, false] rfl rfl (by kernel_rfl) (fun _ _ _ h => h) (Or.inl ⟨by rfl, ?_⟩) hHeld ?_ ?_
        rotate_left
        · rintro w' ⟨s0, s1⟩
          go_simp
          with_reducible rfl
        rotate_left
        · simp only [Act.put, List.setIfInBounds_toArray, List.set_cons_zero, List.set_cons_succ, i64_w, i32_w]
          rfl
        refine pure_ (i := 15) (N := some 66) (v := ?_) (a' := ?_) #[false, true, true, true, true, true, true, true, true, true, true, true, true, true, true, true, false, false, false] rfl rfl (by kernel_rfl) (fun _ _ _ h => h) (Or.inl ⟨by rfl, ?_⟩) ?_ ?_
        rotate_left
        · intro w'
          go_simp
          with_reducible rfl
        rotate_left
        · simp only [Act.put, List.setIfInBounds_toArray, List.set_cons_zero, List.set_cons_succ, i64_w, i32_w]
          rfl
        refine pure_ (i := 16) (N := some 67) (v := ?_) (a' := ?_) #[false, true, true, true, true, true, true, true, true, true, true, true, true, true, true, true, true, false, false] rfl rfl (by kernel_rfl) (fun _ _ _ h => h) (Or.inl ⟨by rfl, ?_⟩) ?_ ?_
        rotate_left
        · intro w'
          go_simp
          with_reducible rfl
        rotate_left
        · simp only [Act.put, List.setIfInBounds_toArray, List.set_cons_zero, List.set_cons_succ, i64_w, i32_w]
          rfl
        refine one_ (i := 0) (N := some 51) #[true, true, true, true, true, true, true, true, true, true, true, true, true, true, true, true, true, false, false] rfl rfl (by kernel_rfl) (by decide) (fun K hK => ?_)
        refine Kd.R_lit_step (Kd.int .u8) _ 5 (by rfl) (N := 51) ?hd (xs := ([] : List Int)) (inner := []) (ok := fun k => k ≠ g) (okp := fun _ => False) ?hr ?hp (fun _ hk => hk.elim) (IsS71.fresh HI.out _ (below_size (by repeat (first | (with_reducible first | exact HBB.out | apply below_alloc | apply pw_below_drewN | apply below_drew1) | exact HBB.out)))) (Below.refl _ _) (Nat.le_refl _) (by simp) ?_
        case hd => rfl
        case hr => first | (go_simp; done) | (go_simp; rfl)
        case hp => exact (Reps.none _ _)
        intro va wa ho5 hb hg_ hnew_
        clear hg_ hnew_
        (first | rw [← Ny1.out] at ho5 | (simp only [Int.reduceToNat] at ho5; rw [← Ny1.out] at ho5))
        have n0_ := Aside0.mk (Kd.R_lower ho5 (below_size (by repeat (first | (with_reducible first | exact HBB.out | apply below_alloc | apply pw_below_drewN | apply below_drew1) | exact HBB.out))))
        have n1_ := Aside0.mk (below_step (by repeat (first | (with_reducible first | exact HBB.out | apply below_alloc | apply pw_below_drewN | apply below_drew1) | exact HBB.out)) hb)
        clear HBB
        have HOa := n0_
        have HBB := n1_
        clear n0_ n1_
        refine hK.out _ _ ⟨(hb.cell (World.block_lt_of_cell? _ _ hHeld.1)).trans hHeld.1, (hb.cell (World.block_lt_of_cell? _ _ hHeld.2)).trans hHeld.2⟩ (fun hHeld => ?_)
        clear hK K
        refine norm_ (a' := ?_) ?_ ?_
        rotate_left
        · show Act.put _ (some 51) _ = _
          simp only [Act.put, List.setIfInBounds_toArray, List.set_cons_zero, List.set_cons_succ, i64_w, i32_w]
          rfl
        refine one_ (i := 17) (N := some 68) #[true, true, true, true, true, true, true, true, true, true, true, true, true, true, true, true, true, true, false] rfl rfl (by kernel_rfl) (by decide) (fun K hK => ?_)
        refine Kd.R_append_rows_step (Kd.int .u8) (w0 := w5) w5.heap.size (by rfl) (.tmp 51) (.tmp 67) 22 5 (.int .u8 0) 1 (by rfl) Try.underlying22 info5 rfl (by decide) (by omega) va y1 y _ _ _ (fun k => k ≠ g) (fun _ => False) (by rfl) (by rfl) ?aO ?aR (fun _ _ h => h) (fun _ h => h.elim) ?aF ?aB ?aS ?aL ?_
        case aR => exact Kd.C_below (Kd.C_below HC1x.out HB.out) (by repeat (first | (with_reducible first | exact HBB.out | apply below_alloc | apply pw_below_drewN | apply below_drew1) | exact HBB.out))
        case aB => exact (by repeat (first | (with_reducible first | exact HBB.out | apply below_alloc | apply pw_below_drewN | apply below_drew1) | exact HBB.out))
        case aF => exact fun k hk => IsS71.fresh HI.out k (Nat.le_trans (below_size (by repeat (first | (with_reducible first | exact HBB.out | apply below_alloc | apply pw_below_drewN | apply below_drew1) | exact HBB.out))) hk)
        case aO => exact (by (with_reducible repeat (first | apply Kd.R_alloc | apply Kd.R_drewN | apply Kd.R_drew)); exact HOa.out)
        case aS => exact (below_size (by repeat (first | (with_reducible first | exact HBB.out | apply below_alloc | apply pw_below_drewN | apply below_drew1) | exact HBB.out)))
        case aL => have := LMy.out; omega
        intro vb w6 ho hb hg hat
        rw [← Ny2.out] at ho
        have n0_ := Aside0.mk hb
        have n1_ := Aside0.mk ho
        clear HBB HOa
        have HBB := n0_
        have HOa := n1_
        clear n0_ n1_
        refine hK.out _ _ ⟨(hb.cell (World.block_lt_of_cell? _ _ hc_0)).trans hc_0, (hb.cell (World.block_lt_of_cell? _ _ hc_1)).trans hc_1⟩ (fun hHeld => ?_)
        clear hK K
        refine norm_ (a' := ?_) ?_ ?_
        rotate_left
        · show Act.put _ (some 68) _ = _
          simp only [Act.put, List.setIfInBounds_toArray, List.set_cons_zero, List.set_cons_succ, i64_w, i32_w]
          rfl
        refine pure_ (i := 18) (N := some 7) (v := ?_) (a' := ?_) #[true, true, true, true, true, true, true, true, true, true, true, true, true, true, true, true, true, true, true] rfl rfl (by kernel_rfl) (fun _ _ _ h => h) (Or.inl ⟨by rfl, ?_⟩) ?_ ?_
        rotate_left
        · intro w'
          go_simp
          with_reducible rfl
        rotate_left
        · simp only [Act.put, List.setIfInBounds_toArray, List.set_cons_zero, List.set_cons_succ, i64_w, i32_w]
          rfl
        refine done_ (by kernel_rfl) ?_

        have HI6 := Aside0.mk (IsS71.below HI.out HBB.out)
        have HB6 := Aside0.mk (below_step HB.out HBB.out)
        have HK6 := Aside0.mk (KeepBut.trans HK.out (KeepBut.of_below HBB.out g none) (.inl rfl))
        have HR6 := Aside0.mk (Kd.R_lower HOa.out HK.out.1)
        clear HI HB HK HBB HOa
        (try clear hc_0); (try clear hc_1); (try clear hc_2); (try clear hf_1); (try clear hf_2); (try clear HS); (try clear cS); (try clear AS)
        obtain ⟨AS, cS, HG, hg, HS⟩ := HI6.out
        have hc_0 := cellS71_0 HG; have hc_1 := cellS71_1 HG; have hc_2 := cellS71_2 HG; have hf_1 := blk_frozen HG 1; have hf_2 := blk_frozen HG 2; clear hg HG HS
        go_wp2
        go_ret
        exact ⟨vb, rfl, by rw [HYY.out]; exact Kd.R_far HR6.out (fun k hk => hk) _, IsS71.set_1 HI6.out _, below_set HB6.out (IsS71.ge HI6.out), HK6.out.set_ 1 _⟩
  · replace hN : towlineref01_Reader_Number.f 36 s (at_ : Int) 0 = some (0, (at_ : Int), e) := by rw [hN]; unfold resR; rw [if_neg c0]
    have HN := Aside0.mk hN
    rw [if_pos c0]
    have c0b : (e != 0) = true := bne_iff_ne.mpr c0
    clear hN hok hmost
    go_enter Try.func51, Try.ntmps51
    obtain ⟨AS, cS, HG, hg, HS⟩ := HI.out; have hc_0 := cellS71_0 HG; have hc_1 := cellS71_1 HG; have hc_2 := cellS71_2 HG; have hf_1 := blk_frozen HG 1; have hf_2 := blk_frozen HG 2; clear hg HG
    go_wp2_with (first | (go_at_call 52; (with_reducible refine (towlineref01_Reader_Number.calls 36 g s _ _ _ _ _ w0 _ (by repeat (first | (with_reducible first | exact HI.out | apply IsS71.alloc | apply IsS71.drewN | apply IsS71.drew | apply IsS71.set_1 | apply IsS71.set_2) | exact HI.out)) (by repeat (first | (with_reducible first | exact HB.out | apply below_alloc | apply pw_below_drewN | apply below_drew1 | refine below_set ?_ (IsS71.ge HI.out)) | exact HB.out)) HN.out).mono ?_); rintro e w4 ⟨rfl, hi, hb, hk⟩; have n0_ := Aside0.mk (KeepBut.trans (by repeat (first | (with_reducible first | exact HK.out | apply KeepBut.set_ | apply keep_drewN | apply keep_drew | apply keep_alloc) | exact HK.out)) hk (.inl rfl)); have n1_ := Aside0.mk hb; have n2_ := Aside0.mk hi; clear HK; clear HB; clear HI; have HK := n0_; have HB := n1_; have HI := n2_; clear n0_ n1_ n2_; (try clear hb); (try clear hk); (try clear hi); (try clear hc_0); (try clear hc_1); (try clear hc_2); (try clear hf_1); (try clear hf_2); (try clear HS); (try clear cS); (try clear AS); obtain ⟨AS, cS, HG, hg, HS⟩ := HI.out; have hc_0 := cellS71_0 HG; have hc_1 := cellS71_1 HG; have hc_2 := cellS71_2 HG; have hf_1 := blk_frozen HG 1; have hf_2 := blk_frozen HG 2; clear hg HG)); repeat (go_quiet (first | (go_at_call 52; (with_reducible refine (towlineref01_Reader_Number.calls 36 g s _ _ _ _ _ w0 _ (by repeat (first | (with_reducible first | exact HI.out | apply IsS71.alloc | apply IsS71.drewN | apply IsS71.drew | apply IsS71.set_1 | apply IsS71.set_2) | exact HI.out)) (by repeat (first | (with_reducible first | exact HB.out | apply below_alloc | apply pw_below_drewN | apply below_drew1 | refine below_set ?_ (IsS71.ge HI.out)) | exact HB.out)) HN.out).mono ?_); rintro e w4 ⟨rfl, hi, hb, hk⟩; have n0_ := Aside0.mk (KeepBut.trans (by repeat (first | (with_reducible first | exact HK.out | apply KeepBut.set_ | apply keep_drewN | apply keep_drew | apply keep_alloc) | exact HK.out)) hk (.inl rfl)); have n1_ := Aside0.mk hb; have n2_ := Aside0.mk hi; clear HK; clear HB; clear HI; have HK := n0_; have HB := n1_; have HI := n2_; clear n0_ n1_ n2_; (try clear hb); (try clear hk); (try clear hi); (try clear hc_0); (try clear hc_1); (try clear hc_2); (try clear hf_1); (try clear hf_2); (try clear HS); (try clear cS); (try clear AS); obtain ⟨AS, cS, HG, hg, HS⟩ := HI.out; have hc_0 := cellS71_0 HG; have hc_1 := cellS71_1 HG; have hc_2 := cellS71_2 HG; have hf_1 := blk_frozen HG 1; have hf_2 := blk_frozen HG 2; clear hg HG)); try go_wp2_with (first | (go_at_call 52; (with_reducible refine (towlineref01_Reader_Number.calls 36 g s _ _ _ _ _ w0 _ (by repeat (first | (with_reducible first | exact HI.out | apply IsS71.alloc | apply IsS71.drewN | apply IsS71.drew | apply IsS71.set_1 | apply IsS71.set_2) | exact HI.out)) (by repeat (first | (with_reducible first | exact HB.out | apply below_alloc | apply pw_below_drewN | apply below_drew1 | refine below_set ?_ (IsS71.ge HI.out)) | exact HB.out)) HN.out).mono ?_); rintro e w4 ⟨rfl, hi, hb, hk⟩; have n0_ := Aside0.mk (KeepBut.trans (by repeat (first | (with_reducible first | exact HK.out | apply KeepBut.set_ | apply keep_drewN | apply keep_drew | apply keep_alloc) | exact HK.out)) hk (.inl rfl)); have n1_ := Aside0.mk hb; have n2_ := Aside0.mk hi; clear HK; clear HB; clear HI; have HK := n0_; have HB := n1_; have HI := n2_; clear n0_ n1_ n2_; (try clear hb); (try clear hk); (try clear hi); (try clear hc_0); (try clear hc_1); (try clear hc_2); (try clear hf_1); (try clear hf_2); (try clear HS); (try clear cS); (try clear AS); obtain ⟨AS, cS, HG, hg, HS⟩ := HI.out; have hc_0 := cellS71_0 HG; have hc_1 := cellS71_1 HG; have hc_2 := cellS71_2 HG; have hf_1 := blk_frozen HG 1; have hf_2 := blk_frozen HG 2; clear hg HG)))
    go_ret
    exact ⟨_, rfl, Kd.R_nil _ _ _ _ _, by repeat (first | (with_reducible first | exact HI.out | apply IsS71.alloc | apply IsS71.drewN | apply IsS71.drew | apply IsS71.set_1 | apply IsS71.set_2) | exact HI.out), by repeat (first | (with_reducible first | exact HB.out | apply below_alloc | apply pw_below_drewN | apply below_drew1 | refine below_set ?_ (IsS71.ge HI.out)) | exact HB.out), by repeat (first | (with_reducible first | exact HK.out | apply KeepBut.set_ | apply keep_drewN | apply keep_drew | apply keep_alloc) | exact HK.out)⟩
end Go.Proofs.Ytleaiojilmkhaaa.Wire
