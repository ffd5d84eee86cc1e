/- A fuse leaves what an Append of its first bytes, and a crash, leave. -/
import Derived.Test.YtnnkohddhiecoaaDkW
namespace Go.Proofs.Ytnnkohddhiecoaa.Wk
open Go Go.RowKit Go.Proofs.YtnnkohddhiecoaaW.PrintWords Go.Proofs.YtnnkohddhiecoaaW.PrintLast Go.Proofs.YtnnkohddhiecoaaW.PrintMore Go.Proofs.Ytnnkohddhiecoaa.Dk
open Go.Proofs.Ytnnkohddhiecoaa.PDiskBegins
attribute [local go_sem] max2_int min2_int max_two min_two
set_option linter.unusedVariables false
set_option linter.unusedSimpArgs false
theorem doneA_off (i : Nat) (b : List Int) (s : DS) (n : Nat) : (doneA i b s n).off = s.off := rfl
theorem one_do {W : World} {g : Nat} {t : TypeId} {fr : Nat × Nat} {A : Option Addr} {c : Nat} {b : List Int} (hg : W.heap[g]? = some (.cells #[.int .i64 0, .int .i64 0, .int .i64 0, .slice A b.length c, .slice none 0 0] t fr)) (hc : b.length ≤ c) (hC : (Kd.int .u8).C W A b.length b) :
    k35.C W (some ⟨g, 0, none⟩) 1 [⟨0, 0, 0, b, []⟩] := by
  refine ⟨rfl, by decide, fun _ => ⟨_, rfl, fun j l hj => ?_⟩⟩
  have h0 : j = 0 := by
    have := (List.getElem?_eq_some_iff.1 hj).1
    simp at this; exact this
  subst h0
  injection hj with hj
  subst hj
  refine ⟨[.int .i64 0, .int .i64 0, .int .i64 0, .slice A b.length c, .slice none 0 0], rfl, k35_mk W ⟨0, 0, 0, b, []⟩ hc hC (c4 := 0) (Nat.le_refl _) (Kd.C_nil _ _), fun i u hi => ?_⟩
  have ha : (⟨g, 0, none⟩ : Addr).add (0 * k35.sz + i) = ⟨g, i, none⟩ := by
    rw [add_at]; simp
  rw [ha, cell_of_row W g i _ t fr hg]
  simpa using hi
theorem rem8 (a : Int) : ∃ i : Nat, i < 8 ∧ IntKind.i64.wrap ((IntKind.u64.wrap a).tmod 8) = (i : Int) := by
  have h1 : IntKind.u64.wrap a = a % 18446744073709551616 := by rfl
  have h2 : (0 : Int) ≤ a % 18446744073709551616 := by omega
  rw [h1, Int.tmod_eq_emod_of_nonneg h2]
  refine ⟨((a % 18446744073709551616) % 8).toNat, by omega, ?_⟩
  rw [IntWalk.i64_in _ (by omega)]
  omega
theorem remn (a : Int) (m : Nat) (hm : m ≤ 16384) : ∃ n : Nat, 1 ≤ n ∧ n ≤ m + 2 ∧ IntKind.i64.wrap ((m : Int) + 2) = (m : Int) + 2 ∧ IntKind.u64.wrap ((m : Int) + 2) = (m : Int) + 2 ∧ (((m : Int) + 2 == 0) = false) ∧ IntKind.i64.wrap ((IntKind.u64.wrap a).tmod ((m : Int) + 2)) = (n : Int) - 1 ∧ IntKind.i64.wrap (1 + ((n : Int) - 1)) = (n : Int) := by
  have h1 : IntKind.u64.wrap a = a % 18446744073709551616 := by rfl
  have h2 : (0 : Int) ≤ a % 18446744073709551616 := by omega
  have h3 : IntKind.u64.wrap ((m : Int) + 2) = ((m : Int) + 2) % 18446744073709551616 := by rfl
  have h4 := Int.emod_nonneg (a % 18446744073709551616) (show ((m : Int) + 2) ≠ 0 by omega)
  have h5 := Int.emod_lt_of_pos (a % 18446744073709551616) (show (0 : Int) < (m : Int) + 2 by omega)
  obtain ⟨q, hq⟩ : ∃ q, (a % 18446744073709551616) % ((m : Int) + 2) = q := ⟨_, rfl⟩
  rw [h1, Int.tmod_eq_emod_of_nonneg h2, hq]
  rw [hq] at h4 h5
  refine ⟨(1 + q).toNat, by omega, by omega, IntWalk.i64_in _ (by omega), by rw [h3]; omega, by simp; omega, ?_, ?_⟩
  · rw [IntWalk.i64_in _ (by omega)]; omega
  · rw [IntWalk.i64_in _ (by omega)]; omega
set_option maxHeartbeats 8000000 in
set_option maxRecDepth 100000 in
theorem DiskStruck {W : World} (a0 : Option Addr) (cap0 : Nat) (l0 : List S35) (hl0 : l0.length ≤ cap0) (hC0 : k35.C W a0 l0.length l0) (hG0 : ∀ x ∈ l0, GDo x) (a1 : Int) (w1 : (Lit.int .i64 a1).wf = true) (a2 : Int) (w2 : (Lit.int .i64 a2).wf = true)
    (a3 : Option Addr) (cap3 : Nat) (l3 : List Int) (hl3 : l3.length ≤ cap3) (hC3 : (Kd.int .u8).C W a3 l3.length l3) (hG3 : ∀ y ∈ l3, (Lit.int .u8 y).wf = true) (a4 : Option Addr) (cap4 : Nat) (l4 : List Int) (hl4 : l4.length ≤ cap4) (hC4 : (Kd.int .i64).C W a4 l4.length l4) (hG4 : ∀ y ∈ l4, (Lit.int .i64 y).wf = true) :
    Calls Try.prog 8 #[.slice a0 l0.length cap0, .int .i64 a1, .int .i64 a2, .slice a3 l3.length cap3, .slice a4 l4.length cap4] W fun e w' => e = .returned (.bool true) ∧ Below W.heap.size W w' := by
  have HC0 := Aside0.mk hC0
  have HC3 := Aside0.mk hC3
  have HC4 := Aside0.mk hC4
  have HL0 := Aside0.mk hl0
  have HL3 := Aside0.mk hl3
  have HL4 := Aside0.mk hl4
  have HG0 := Aside0.mk hG0
  have HG4 := Aside0.mk hG4
  have HB1 := Aside0.mk (below_alloc (Below.refl W.heap.size W) (.cells #[.int .i64 0, .int .i64 0, .int .i64 0, .slice a3 l3.length cap3, .slice none 0 0] 35))
  obtain ⟨r, hr, hsh⟩ := short2 l0 [⟨0, 0, 0, l3, []⟩] a0 cap0 (some ⟨W.heap.size, 0, none⟩) 1 (W.alloc (.cells #[.int .i64 0, .int .i64 0, .int .i64 0, .slice a3 l3.length cap3, .slice none 0 0] 35)) (Kd.C_below hC0 (below_alloc (Below.refl _ _) _)) hl0 (one_do (blk_new _ _) hl3 (Kd.C_below hC3 (below_alloc (Below.refl _ _) _))) (Nat.le_refl _)
  replace hsh := hsh.mono (R' := fun e w' => e = .returned (.bool r) ∧ Below W.heap.size W w') (fun e w' h => ⟨h.1, below_step HB1.out h.2⟩)
  rw [show (W.alloc (.cells #[.int .i64 0, .int .i64 0, .int .i64 0, .slice a3 l3.length cap3, .slice none 0 0] 35)).heap.size = W.heap.size + 1 by simp] at hsh
  have HSH := Aside0.mk hsh
  have HR := Aside0.mk hr
  clear hsh hr hC0 hC3 hC4 hG0 hG3 hG4
  cases r with
  | false =>
    clear HR
    go_enter Try.func8, Try.ntmps8
    go_wp2_with (fail)
    refine (HSH.out).mono ?_
    rintro e x1 ⟨rfl, hb1⟩
    have HX := Aside0.mk hb1
    clear hb1 HSH
    go_wp2_with (fail)
    refine (awake_calls x1).mono ?_
    rintro e x2 ⟨rfl, hb2⟩
    have HY := Aside0.mk (below_step HX.out hb2)
    clear hb2
    go_wp2_with (fail)
    go_ret
    exact ⟨rfl, HY.out⟩
  | true =>
    by_cases ck : 100 < l4.length
    · have d1 : decide ((100 : Int) < (l4.length : Int)) = true := decide_eq_true (by omega)
      clear HR ck
      go_enter Try.func8, Try.ntmps8
      go_wp2_with (fail)
      refine (HSH.out).mono ?_
      rintro e x1 ⟨rfl, hb1⟩
      have HX := Aside0.mk hb1
      clear hb1 HSH
      go_wp2_with (fail)
      refine (awake_calls x1).mono ?_
      rintro e x2 ⟨rfl, hb2⟩
      have HY := Aside0.mk (below_step HX.out hb2)
      clear hb2
      go_wp2_with (fail)
      go_ret
      exact ⟨rfl, HY.out⟩
    · have d1 : decide ((100 : Int) < (l4.length : Int)) = false := decide_eq_false (by omega)
      have HK := Aside0.mk (show l4.length ≤ 100 by omega)
      clear ck
      obtain ⟨i, hi, f1⟩ := rem8 a1
      obtain ⟨n, hn1, hn2, f5⟩ := remn a2 l3.length (by have := HR.out rfl; simp [lsum, bsum] at this; omega)
      obtain ⟨f2, f3, f4, f5, f6⟩ := f5
      have HSM := Aside0.mk (HR.out rfl)
      have HI := Aside0.mk hi
      have HN := Aside0.mk (And.intro hn1 hn2)
      clear hi hn1 hn2
      go_enter Try.func8, Try.ntmps8
      go_wp2_with (fail)
      refine (HSH.out).mono ?_
      rintro e x1 ⟨rfl, hb1⟩
      have HX := Aside0.mk hb1
      clear hb1 HSH
      go_wp2_with (fail)
      go_quiet (fail)
      have HY := Aside0.mk (pw_below_drewN HX.out nq)
      clear HX f1 f2 f3 f4 f5 f6 d1
      generalize x1.drewN nq = x2 at *
      go_wp2_with (fail)
      refine (made_calls l0 a0 cap0 x2 (Kd.C_below HC0.out HY.out) HL0.out (fun x hx => (HG0.out x hx).ok (HSM.out.2.1 x hx))).mono ?_
      rintro e x3 ⟨b, rfl, hb, hB3, hI⟩
      have HG := Aside0.mk (Nat.le_trans HY.out.size hb)
      have HB3 := Aside0.mk (below_step HY.out hB3)
      have HI := Aside0.mk hI
      have HOK := Aside0.mk (goP_okk (newP_okk 2097152 (by decide)) l0 (fun x hx => (HG0.out x hx).ok (HSM.out.2.1 x hx)))
      have HRM := Aside0.mk (go_room (newP 2097152) l0)
      have HU := Aside0.mk (used_go 2097152 l0)
      clear hb hB3 hI HY
      generalize goP (newP 2097152) l0 = s0 at *
      go_wp2_with (fail)
      refine (Start_calls _ b s0 _ HI.out).mono ?_
      rintro e x4 ⟨rfl, hI, hW⟩
      have HI1 := Aside0.mk hI
      have HB4 := Aside0.mk (hW.below HB3.out HG.out)
      have HOK1 := Aside0.mk HOK.out.start
      have HRM1 := Aside0.mk (show (startP s0).1.room ≠ 0 by rw [start_room, HRM.out]; decide)
      have HOF1 := Aside0.mk (show (startP s0).1.off = false by rw [Dk.start_eq (show s0.room ≠ 0 by rw [HRM.out]; decide)])
      have HU1 := Aside0.mk (show (usedP (startP s0).1 : Int) + (l3.length : Int) ≤ (startP s0).1.room by
        rw [used_start, start_room, HRM.out]
        have h1 := HU.out
        have h2 := HSM.out.1
        have h3 : lsum [l0, [⟨0, 0, 0, l3, []⟩]] = bsum l0 + (l3.length + 0 + 0) := rfl
        show _ ≤ (2097152 : Int)
        omega)
      clear hI hW HI HB3 HOK HRM HU
      generalize (startP s0).1 = s1 at *
      generalize (startP s0).2 = er at *
      go_wp2_with (fail)
      refine (DClone_calls _ b s1 _ HI1.out).mono ?_
      rintro e x5 ⟨c, rfl, hc, hc5, hB5, hI⟩
      have HC := Aside0.mk hI
      have HD := Aside0.mk (HI1.out.more hc hc5 hB5)
      have HB5 := Aside0.mk (below_step HB4.out hB5)
      have HGC := Aside0.mk (Nat.le_trans HB4.out.size hc)
      have HNE := Aside0.mk (show b ≠ c by have := HI1.out.ltg; omega)
      have HGB := Aside0.mk hI.gg
      have HGG := Aside0.mk HD.out.gg
      clear hc hc5 hB5 hI HI1 HB4
      go_wp2_with (fail)
      have HKR := Aside0.mk (fun (w' : World) (h : Below W.heap.size W w') => (Rw.came (G := fun k => k = b) HC4.out HL4.out (fun k hk => hk ▸ HG.out)).below h)
      refine (Arm_calls _ b s1 (n : Int) _ l4 _ HD.out HOK1.out (HKR.out _ HB5.out) (by have := HK.out; omega)).mono ?_
      rintro e x6 ⟨rfl, hI, hW⟩
      have hq := arm_on HRM1.out HOF1.out (n := (n : Int)) (by have := HN.out.1; omega) l4
      rw [hq] at hI
      rw [hq]
      have HD6 := Aside0.mk hI
      have HC6 := Aside0.mk (HC.out.other hW (by simp) HNE.out.symm)
      have HB6 := Aside0.mk (hW.below HB5.out HG.out)
      clear hI hW hq HD HC HB5
      go_wp2_with (fail)
      have HBR := Aside0.mk (fun (w' : World) (h : Below W.heap.size W w') (k : Nat) (hk : W.heap.size ≤ k) => (Rw.came (G := fun j => j = k) HC3.out HL3.out (fun j hj => hj ▸ hk)).below h)
      have HLB := Aside0.mk (show l3.length ≤ 16384 by
        have h2 := HSM.out.1
        have h3 : lsum [l0, [⟨0, 0, 0, l3, []⟩]] = bsum l0 + (l3.length + 0 + 0) := rfl
        omega)
      have HOK2 := Aside0.mk (show Okk (armed s1 (n : Int) l4) by
        have h := HOK1.out.arm (n : Int) l4 (by have := HN.out.2; have := HLB.out; omega) (fun x hx => wfI_range (HG4.out x hx)) (by have := HK.out; omega)
        rwa [arm_on HRM1.out HOF1.out (n := (n : Int)) (by have := HN.out.1; omega) l4] at h)
      refine (Append_calls _ b (armed s1 (n : Int) l4) (i : Int) _ l3 _ HD6.out HOK2.out (HBR.out _ HB6.out b HG.out) (by have := HLB.out; omega)).mono ?_
      rintro e x7 ⟨rfl, hI, hW⟩
      have HD7 := Aside0.mk hI
      have HC7 := Aside0.mk (HC6.out.other hW (by simp) HNE.out.symm)
      have HB7 := Aside0.mk (hW.below HB6.out HG.out)
      clear hI hW HD6 HC6 HB6
      by_cases cl : l3.length < n
      · have hq := struck_long HRM1.out HOF1.out HI.out l3 HU1.out cl l4
        rw [hq]
        have d2 : decide ((l3.length : Int) < (n : Int)) = true := decide_eq_true (by omega)
        clear hq HD7 HC7
        go_wp2_with (fail)
        refine (awake_calls x7).mono ?_
        rintro e x8 ⟨rfl, hb8⟩
        have HB8 := Aside0.mk (below_step HB7.out hb8)
        clear hb8
        go_wp2_with (fail)
        go_ret
        exact ⟨rfl, HB8.out⟩
      · have hq := struck_short HRM1.out HOF1.out HI.out l3 HU1.out (show n ≤ l3.length by omega) l4
        rw [hq] at HD7
        rw [hq]
        have d2 : decide ((l3.length : Int) < (n : Int)) = false := decide_eq_false (by omega)
        have d3 : decide ((n : Int) ≤ (l3.length : Int)) = true := decide_eq_true (by omega)
        have d4 : n ≤ l3.length := by omega
        have d5 : l3.length ≤ cap3 := HL3.out
        have HN2 := Aside0.mk d4
        clear hq
        go_wp2_with (fail)
        refine (Arm_calls _ c s1 1099511627776 _ [] _ HC7.out HOK1.out (Rw.nil _ _ _) (by decide)).mono ?_
        rintro e x8 ⟨rfl, hI, hW⟩
        have hq := arm_on HRM1.out HOF1.out (n := 1099511627776) (by decide) []
        rw [hq] at hI
        rw [hq]
        have HC8 := Aside0.mk hI
        have HD8 := Aside0.mk (HD7.out.other hW (by simp) HNE.out)
        have HB8 := Aside0.mk (hW.below HB7.out HGC.out)
        clear hI hW hq HD7 HC7 HB7
        go_wp2_with (fail)
        have HTK := Aside0.mk (Kd.C_take HC3.out HN2.out)
        have HLT := Aside0.mk (show (l3.take n).length = n by rw [List.length_take]; have := HN2.out; omega)
        have hrow := (Rw.came (G := fun j => j = c) HTK.out (c := cap3) (by rw [HLT.out]; exact Nat.le_trans HN2.out HL3.out) (fun j hj => hj ▸ HGC.out)).below HB8.out
        rw [HLT.out] at hrow
        have HOK3 := Aside0.mk (show Okk (armed s1 1099511627776 []) by
          have h := HOK1.out.arm 1099511627776 [] (by decide) (fun x hx => by cases hx) (by decide)
          rwa [arm_on HRM1.out HOF1.out (n := 1099511627776) (by decide) []] at h)
        refine (Append_calls _ c (armed s1 1099511627776 []) (i : Int) _ (l3.take n) _ HC8.out HOK3.out hrow (by rw [HLT.out]; have := HN2.out; have := HLB.out; omega)).mono ?_
        rintro e x9 ⟨rfl, hI, hW⟩
        have hq := struck_long HRM1.out HOF1.out HI.out (l3.take n) (by rw [HLT.out]; have := HU1.out; have := HN2.out; omega) (n := 1099511627776) (by rw [HLT.out]; have := HN2.out; have := HLB.out; omega) []
        rw [show ((1099511627776 : Nat) : Int) = 1099511627776 by simp] at hq
        rw [hq] at hI
        rw [hq]
        have HC9 := Aside0.mk hI
        have HD9 := Aside0.mk (HD8.out.other hW (by simp) HNE.out)
        have HB9 := Aside0.mk (hW.below HB8.out HGC.out)
        have HOK4 := Aside0.mk (show Okk (doneA i (l3.take n) (burnS (armed s1 1099511627776 []) (l3.take n).length) (l3.take n).length) by
          have h := HOK3.out.append (i : Int) (l3.take n)
          rwa [hq] at h)
        obtain ⟨t1, ht1⟩ : ∃ t1, doneA i (l3.take n) (burnS (armed s1 1099511627776 []) (l3.take n).length) (l3.take n).length = t1 := ⟨_, rfl⟩
        have HT1 := Aside0.mk ht1
        rw [ht1] at HOK4 HC9
        clear hI hW hq HD8 HC8 HB8 hrow ht1
        go_wp2_with (fail)
        have HKC := Aside0.mk ((Rw.came (G := fun k => k = c) HC4.out HL4.out (fun k hk => hk ▸ HGC.out)).below HB9.out)
        refine (Crash_calls _ c t1 _ l4 _ HC9.out HOK4.out HKC.out (fun x hx => wfI_range (HG4.out x hx))).mono ?_
        rintro e xa ⟨rfl, hI, hW⟩
        have HTR := Aside0.mk (show t1.room ≠ 0 by rw [← HT1.out, doneA_room, (burn_fs _ _).2.2.1]; exact HRM1.out)
        have HTO := Aside0.mk (show t1.off = false by rw [← HT1.out, doneA_off, (burn_fs _ _).2.2.2.1]; exact HOF1.out)
        have hq := crash_on HTR.out HTO.out l4
        have hs : fallP t1 l4 = fallP (doneA i l3 (armed s1 (n : Int) l4) n) l4 := by
          refine same_fall ?_ ?_ _
          · rw [← HT1.out]
            exact doneA_fs (by rw [(burn_fs _ _).1]; rfl) _ _ _ _ _ (by rw [HLT.out, List.take_take, Nat.min_self])
          · rw [← HT1.out, doneA_room, (burn_fs _ _).2.2.1]; rfl
        rw [hq, hs] at hI
        rw [hq]
        have HCa := Aside0.mk hI
        have HDa := Aside0.mk (HD9.out.other hW (by simp) HNE.out)
        have HBa := Aside0.mk (hW.below HB9.out HGC.out)
        have HOK5 := Aside0.mk (show Okk (fallP (doneA i l3 (armed s1 (n : Int) l4) n) l4) by rw [← hs]; exact HOK4.out.fall l4)
        clear hI hW hq hs HD9 HC9 HB9
        generalize fallP (doneA i l3 (armed s1 (n : Int) l4) n) l4 = t2 at *
        go_wp2_with (fail)
        refine (files_calls _ c t2 _ HCa.out HOK5.out).mono ?_
        rintro e xb ⟨VS, rfl, hv1, hf1, hI, hW⟩
        have HDb := Aside0.mk (HDa.out.other hW (by simp) HNE.out)
        have HBb := Aside0.mk (hW.below HBa.out HGC.out)
        have HSZ := Aside0.mk (Nat.le_trans HBa.out.size (Nat.le_refl _))
        have HV1 := Aside0.mk hv1
        have HBT := Aside0.mk (show b < xa.heap.size from HDa.out.ltg)
        have HF1 := Aside0.mk hf1
        clear hI hW hv1 hf1 HDa HCa HBa
        go_wp2_with (fail)
        refine (files_calls _ b t2 _ HDb.out HOK5.out).mono ?_
        rintro e xc ⟨WS, rfl, hv2, hf2, hI, hW⟩
        have HBc := Aside0.mk (hW.below HBb.out HG.out)
        have HV2 := Aside0.mk hv2
        have HF1 := Aside0.mk (show FRows (fun _ => False) 8 xc VS (filesP t2) from fun j hj => ((HF1.out j hj).step (fun k hk hlt => hW.block k hlt (fun e => hk (e ▸ HBT.out)))).grow (fun _ _ h => h.elim))
        have HF2 := Aside0.mk (show FRows (fun _ => False) 8 xc WS (filesP t2) from fun j hj => (hf2 j hj).grow (fun _ _ h => h.elim))
        clear hI hW hv2 hf2 HDb HBb
        go_wp2_with (fail)
        refine (alike_same _ VS WS (filesP t2) xc HV1.out HV2.out HF1.out HF2.out).mono ?_
        rintro e xd ⟨rfl, hb⟩
        have HBd := Aside0.mk (below_step HBc.out hb)
        clear hb HBc
        go_wp2_with (fail)
        refine (awake_calls xd).mono ?_
        rintro e xe ⟨rfl, hb⟩
        have HBe := Aside0.mk (below_step HBd.out hb)
        clear hb HBd
        go_wp2_with (fail)
        go_ret
        exact ⟨rfl, HBe.out⟩
end Go.Proofs.Ytnnkohddhiecoaa.Wk
