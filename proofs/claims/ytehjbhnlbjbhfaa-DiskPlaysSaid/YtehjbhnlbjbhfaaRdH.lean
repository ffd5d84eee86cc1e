/- Contract of the law's also: a call of the document's disk. -/
import Derived.Test.YtehjbhnlbjbhfaaRdG
import Derived.Test.YtehjbhnlbjbhfaaDkL
namespace Go.Proofs.Ytehjbhnlbjbhfaa.Rd
open Go Go.RowKit Go.Proofs.YtehjbhnlbjbhfaaW.PrintWords Go.Proofs.YtehjbhnlbjbhfaaW.PrintLast Go.Proofs.YtehjbhnlbjbhfaaW.PrintMore Go.Proofs.Ytehjbhnlbjbhfaa.Dk
open Go.Proofs.Ytehjbhnlbjbhfaa.PDiskBegins
attribute [local go_sem] max2_int min2_int max_two min_two
set_option linter.unusedVariables false
set_option linter.unusedSimpArgs false
set_option maxHeartbeats 8000000 in
set_option maxRecDepth 100000 in
theorem also_calls (G : Nat → Prop) (g : Nat) (s : DS) (k : Dd) (bV kV : Value) (w : World) (h : IsX G w g s) (hok : Okk s) (hrm : s.room ≠ 0) (hk : k.ok) (hb : Rw (fun b => b = g) .u8 w bV k.b) (hkp : Rw (fun b => b = g) .i64 w kV k.keep) :
    Calls Try.prog 17 #[.pointer (some ⟨g, 0, none⟩), .agg #[.int .i64 k.op, .int .i64 k.i, .int .i64 k.n, bV, kV]] w fun e w' => e = .returned (.int .i64 (doesP s k).2) ∧ IsX G w' g (doesP s k).1 ∧ Wr g w w' := by
  obtain ⟨op, i, n, b, keep⟩ := k
  have HOK := Aside0.mk hok
  have HK := Aside0.mk hk
  have HD := Aside0.mk (h.al (.cells #[.int .i64 op, .int .i64 i, .int .i64 n, bV, kV] 35))
  have HBL := Below.refl w.heap.size w
  have HW := Aside0.mk (Wr.of_below (g := g) (below_alloc (Below.refl w.heap.size w) (.cells #[.int .i64 op, .int .i64 i, .int .i64 n, bV, kV] 35)))
  have HB := Aside0.mk (hb.below (below_alloc (Below.refl w.heap.size w) (.cells #[.int .i64 op, .int .i64 i, .int .i64 n, bV, kV] 35)))
  have HP := Aside0.mk (hkp.below (below_alloc (Below.refl w.heap.size w) (.cells #[.int .i64 op, .int .i64 i, .int .i64 n, bV, kV] 35)))
  have hkd := kind_wrap op
  generalize hq : kind op = q at hkd
  obtain ⟨A, ca, rfl, _, _⟩ := hb.slice
  obtain ⟨B, cb, rfl, _, _⟩ := hkp.slice
  obtain ⟨r, hr⟩ : ∃ r, doesP s ⟨op, i, n, b, keep⟩ = r := ⟨_, rfl⟩
  rw [hr]
  dsimp only at *
  by_cases c4 : q = 4
  · have hq' : kind op = 4 := hq.trans c4
    rw [c4] at hkd
    have HR := Aside0.mk (show clearP s i = r by rw [← hr]; unfold doesP; rw [if_pos hq'])
    have t4 : (wrap64 ((IntKind.u64.wrap op).tmod 9) == 4) = true := by rw [hkd]; decide
    clear h hok hk hb hkp hr hq HBL hkd hq' c4
    go_enter Try.func17, Try.ntmps17
    go_wp2_with (fail)
    refine (RClear_calls G g s i _ HD.out HOK.out hrm).mono ?_
    rintro e w1 ⟨rfl, hI, hW1⟩
    have HI := Aside0.mk hI
    have HWF := Aside0.mk (HW.out.trans hW1)
    clear hI hW1
    go_wp2
    go_ret
    rw [← HR.out]
    exact ⟨rfl, HI.out, HWF.out⟩
  by_cases c5 : q = 5
  · have hq' : kind op = 5 := hq.trans c5
    rw [c5] at hkd
    have HR := Aside0.mk (show syncP s i = r by rw [← hr]; unfold doesP; rw [if_neg (show ¬ kind op = 4 by rw [hq']; decide), if_pos hq'])
    have t4 : (wrap64 ((IntKind.u64.wrap op).tmod 9) == 4) = false := by rw [hkd]; decide
    have t5 : (wrap64 ((IntKind.u64.wrap op).tmod 9) == 5) = true := by rw [hkd]; decide
    clear h hok hk hb hkp hr hq HBL hkd hq' c4 c5
    go_enter Try.func17, Try.ntmps17
    go_wp2_with (fail)
    refine (RSync_calls G g s i _ HD.out HOK.out hrm).mono ?_
    rintro e w1 ⟨rfl, hI, hW1⟩
    have HI := Aside0.mk hI
    have HWF := Aside0.mk (HW.out.trans hW1)
    clear hI hW1
    go_wp2
    go_ret
    rw [← HR.out]
    exact ⟨rfl, HI.out, HWF.out⟩
  by_cases c6 : q = 6
  · have hq' : kind op = 6 := hq.trans c6
    rw [c6] at hkd
    have HR := Aside0.mk (show crashP s keep = r by rw [← hr]; unfold doesP; rw [if_neg (show ¬ kind op = 4 by rw [hq']; decide), if_neg (show ¬ kind op = 5 by rw [hq']; decide), if_pos hq'])
    have t4 : (wrap64 ((IntKind.u64.wrap op).tmod 9) == 4) = false := by rw [hkd]; decide
    have t5 : (wrap64 ((IntKind.u64.wrap op).tmod 9) == 5) = false := by rw [hkd]; decide
    have t6 : (wrap64 ((IntKind.u64.wrap op).tmod 9) == 6) = true := by rw [hkd]; decide
    clear h hok hk hb hkp hr hq HBL hkd hq' c4 c5 c6
    go_enter Try.func17, Try.ntmps17
    go_wp2_with (fail)
    refine (RCrash_calls G g s _ keep _ HD.out HOK.out hrm HP.out HK.out.2.1).mono ?_
    rintro e w1 ⟨rfl, hI, hW1⟩
    have HI := Aside0.mk hI
    have HWF := Aside0.mk (HW.out.trans hW1)
    clear hI hW1
    go_wp2
    go_ret
    rw [← HR.out]
    exact ⟨rfl, HI.out, HWF.out⟩
  by_cases c7 : q = 7
  · have hq' : kind op = 7 := hq.trans c7
    rw [c7] at hkd
    have HR := Aside0.mk (show startP s = r by rw [← hr]; unfold doesP; rw [if_neg (show ¬ kind op = 4 by rw [hq']; decide), if_neg (show ¬ kind op = 5 by rw [hq']; decide), if_neg (show ¬ kind op = 6 by rw [hq']; decide), if_pos hq'])
    have t4 : (wrap64 ((IntKind.u64.wrap op).tmod 9) == 4) = false := by rw [hkd]; decide
    have t5 : (wrap64 ((IntKind.u64.wrap op).tmod 9) == 5) = false := by rw [hkd]; decide
    have t6 : (wrap64 ((IntKind.u64.wrap op).tmod 9) == 6) = false := by rw [hkd]; decide
    have t7 : (wrap64 ((IntKind.u64.wrap op).tmod 9) == 7) = true := by rw [hkd]; decide
    clear h hok hk hb hkp hr hq HBL hkd hq' c4 c5 c6 c7
    have HE := Aside0.mk (show r = ({ s with off := false }, 0) by rw [← HR.out]; unfold startP; rw [if_neg hrm])
    obtain ⟨_, _, kv, hA, hKV⟩ := HD.out
    have hc25 := hA.c25
    have hf25 := hA.frozen 25
    generalize (toXV s kv).off = oo at hc25
    have HA := Aside0.mk hA
    have HKV := Aside0.mk hKV
    clear hA hKV
    go_enter Try.func17, Try.ntmps17
    go_wp2_with (fail)
    go_ret
    rw [HE.out]
    have hw := HW.out.set 25 (.bool false)
    have ha := HA.out.set25 false
    exact ⟨rfl, ⟨fun b hb => Nat.lt_of_lt_of_le (HD.out.lt b hb) (by simp), HD.out.gg, kv, ha, HKV.out.wr ((Wr.refl g _).set 25 (.bool false)) HD.out.gg⟩, hw⟩
  by_cases c8 : q = 8
  · have hq' : kind op = 8 := hq.trans c8
    rw [c8] at hkd
    have HR := Aside0.mk (show armP s n keep = r by rw [← hr]; unfold doesP; rw [if_neg (show ¬ kind op = 4 by rw [hq']; decide), if_neg (show ¬ kind op = 5 by rw [hq']; decide), if_neg (show ¬ kind op = 6 by rw [hq']; decide), if_neg (show ¬ kind op = 7 by rw [hq']; decide), if_pos hq'])
    have t4 : (wrap64 ((IntKind.u64.wrap op).tmod 9) == 4) = false := by rw [hkd]; decide
    have t5 : (wrap64 ((IntKind.u64.wrap op).tmod 9) == 5) = false := by rw [hkd]; decide
    have t6 : (wrap64 ((IntKind.u64.wrap op).tmod 9) == 6) = false := by rw [hkd]; decide
    have t7 : (wrap64 ((IntKind.u64.wrap op).tmod 9) == 7) = false := by rw [hkd]; decide
    have t8 : (wrap64 ((IntKind.u64.wrap op).tmod 9) == 8) = true := by rw [hkd]; decide
    clear h hok hk hb hkp hr hq HBL hkd hq' c4 c5 c6 c7 c8
    go_enter Try.func17, Try.ntmps17
    go_wp2_with (fail)
    refine (RArm_calls G g s n _ keep _ HD.out HOK.out hrm HP.out HK.out.2.2.1).mono ?_
    rintro e w1 ⟨rfl, hI, hW1⟩
    have HI := Aside0.mk hI
    have HWF := Aside0.mk (HW.out.trans hW1)
    clear hI hW1
    go_wp2
    go_ret
    rw [← HR.out]
    exact ⟨rfl, HI.out, HWF.out⟩
  have HR := Aside0.mk (show appendP s i b = r by rw [← hr]; unfold doesP; rw [if_neg (show ¬ kind op = 4 by rw [hq]; exact c4), if_neg (show ¬ kind op = 5 by rw [hq]; exact c5), if_neg (show ¬ kind op = 6 by rw [hq]; exact c6), if_neg (show ¬ kind op = 7 by rw [hq]; exact c7), if_neg (show ¬ kind op = 8 by rw [hq]; exact c8)])
  have t4 : (wrap64 ((IntKind.u64.wrap op).tmod 9) == 4) = false := by rw [hkd]; simpa using c4
  have t5 : (wrap64 ((IntKind.u64.wrap op).tmod 9) == 5) = false := by rw [hkd]; simpa using c5
  have t6 : (wrap64 ((IntKind.u64.wrap op).tmod 9) == 6) = false := by rw [hkd]; simpa using c6
  have t7 : (wrap64 ((IntKind.u64.wrap op).tmod 9) == 7) = false := by rw [hkd]; simpa using c7
  have t8 : (wrap64 ((IntKind.u64.wrap op).tmod 9) == 8) = false := by rw [hkd]; simpa using c8
  clear h hok hk hb hkp hr hq HBL hkd c4 c5 c6 c7 c8
  go_enter Try.func17, Try.ntmps17
  go_wp2_with (fail)
  refine (RAppend_calls G g s i _ b _ HD.out HOK.out hrm HB.out HK.out.2.2.2).mono ?_
  rintro e w1 ⟨rfl, hI, hW1⟩
  have HI := Aside0.mk hI
  have HWF := Aside0.mk (HW.out.trans hW1)
  clear hI hW1
  go_wp2
  go_ret
  rw [← HR.out]
  exact ⟨rfl, HI.out, HWF.out⟩
end Go.Proofs.Ytehjbhnlbjbhfaa.Rd
