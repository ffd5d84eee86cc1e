/- What was synced, and not cleared since, is there behind any crash. -/
import Derived.Test.YtnnkohddhiecoaaDkX
namespace Go.Proofs.Ytnnkohddhiecoaa.Wk
open Go Go.RowKit Go.Proofs.YtnnkohddhiecoaaW.PrintWords Go.Proofs.YtnnkohddhiecoaaW.PrintLast Go.Proofs.YtnnkohddhiecoaaW.PrintMore Go.Proofs.Ytnnkohddhiecoaa.Dk
open Go.Proofs.Ytnnkohddhiecoaa.PDiskBegins
attribute [local go_sem] max2_int min2_int max_two min_two
set_option linter.unusedVariables false
set_option linter.unusedSimpArgs false
theorem rem8w (a : Int) : ∃ i : Nat, i < 8 ∧ wrap64 ((IntKind.u64.wrap a).tmod 8) = (i : Int) := by
  have h1 : IntKind.u64.wrap a = a % 18446744073709551616 := by rfl
  have h2 : (0 : Int) ≤ a % 18446744073709551616 := by omega
  rw [h1, Int.tmod_eq_emod_of_nonneg h2]
  refine ⟨((a % 18446744073709551616) % 8).toNat, by omega, ?_⟩
  unfold wrap64; omega
theorem agg_index {VS : List Value} (h : VS.length = 8) {k : Nat} (hk : k < 8) (W : World) : (Instr.index 47 (.agg VS.toArray) (.int .i64 (k : Int))).run Try.prog W = .ok (VS.getD k nilV) W := by
  obtain ⟨a0, a1, a2, a3, a4, a5, a6, a7, e⟩ := eight h
  rw [e]
  rcases below8 hk with rfl | rfl | rfl | rfl | rfl | rfl | rfl | rfl <;> kernel_rfl
theorem goP_take (s : DS) (l : List S35) {i : Nat} (h : i < l.length) : goP s (l.take (i + 1)) = (doesP (goP s (l.take i)) (toDd (rd_T35 l (i : Int)))).1 := goP_step s l h
set_option maxHeartbeats 8000000 in
set_option maxRecDepth 100000 in
theorem DiskLasts {W : World} (a0 : Option Addr) (cap0 : Nat) (l0 : List S35) (hl0 : l0.length ≤ cap0) (hC0 : k35.C W a0 l0.length l0) (hG0 : ∀ x ∈ l0, GDo x) (a1 : Option Addr) (cap1 : Nat) (l1 : List S35) (hl1 : l1.length ≤ cap1) (hC1 : k35.C W a1 l1.length l1) (hG1 : ∀ x ∈ l1, GDo x) (a2 : Int) (w2 : (Lit.int .i64 a2).wf = true)
    (a4 : Option Addr) (cap4 : Nat) (l4 : List Int) (hl4 : l4.length ≤ cap4) (hC4 : (Kd.int .i64).C W a4 l4.length l4) (hG4 : ∀ y ∈ l4, (Lit.int .i64 y).wf = true) :
    Calls Try.prog 5 #[.slice a0 l0.length cap0, .slice a1 l1.length cap1, .int .i64 a2, .slice a4 l4.length cap4] W fun e w' => e = .returned (.bool true) ∧ Below W.heap.size W w' := by
  have HC0 := Aside0.mk hC0
  have HC1 := Aside0.mk hC1
  have HC4 := Aside0.mk hC4
  have HL0 := Aside0.mk hl0
  have HL1 := Aside0.mk hl1
  have HL4 := Aside0.mk hl4
  have HG0 := Aside0.mk hG0
  have HG1 := Aside0.mk hG1
  have HG4 := Aside0.mk hG4
  have HM1 := Aside0.mk (Kd.C_max hC1)
  obtain ⟨r, hr, hsh⟩ := short2 l0 l1 a0 cap0 a1 cap1 W hC0 hl0 hC1 hl1
  have HSH := Aside0.mk hsh
  have HR := Aside0.mk hr
  clear hsh hr hC0 hC1 hC4 hG0 hG1 hG4
  cases r with
  | false =>
    clear HR
    go_enter Try.func5, Try.ntmps5
    go_wp2_with (fail)
    refine (HSH.out).mono ?_
    rintro e x1 ⟨rfl, hb1⟩
    have HX := Aside0.mk hb1
    clear hb1 HSH
    go_wp2_with (fail)
    refine (awake_calls x1).mono ?_
    rintro e x2 ⟨rfl, hb2⟩
    have HY := Aside0.mk (below_step HX.out hb2)
    clear hb2
    go_wp2_with (fail)
    go_ret
    exact ⟨rfl, HY.out⟩
  | true =>
    by_cases ck : 100 < l4.length
    · have d1 : decide ((100 : Int) < (l4.length : Int)) = true := decide_eq_true (by omega)
      clear HR
      go_enter Try.func5, Try.ntmps5
      go_wp2_with (fail)
      refine (HSH.out).mono ?_
      rintro e x1 ⟨rfl, hb1⟩
      have HX := Aside0.mk hb1
      clear hb1 HSH
      go_wp2_with (fail)
      refine (awake_calls x1).mono ?_
      rintro e x2 ⟨rfl, hb2⟩
      have HY := Aside0.mk (below_step HX.out hb2)
      clear hb2
      go_wp2_with (fail)
      go_ret
      exact ⟨rfl, HY.out⟩
    · have d1 : decide ((100 : Int) < (l4.length : Int)) = false := decide_eq_false (by omega)
      have HK := Aside0.mk (show l4.length ≤ 100 by omega)
      obtain ⟨i, hi, f1⟩ := rem8w a2
      have HSM := Aside0.mk (HR.out rfl)
      have HI8 := Aside0.mk hi
      clear hi HR
      go_enter Try.func5, Try.ntmps5
      go_wp2_with (fail)
      refine (HSH.out).mono ?_
      rintro e x2 ⟨rfl, hb1⟩
      have HY := Aside0.mk hb1
      clear hb1 HSH
      go_wp2_with (fail)
      clear d1 ck
      refine (made_calls l0 a0 cap0 x2 (Kd.C_below HC0.out HY.out) HL0.out (fun x hx => (HG0.out x hx).ok (HSM.out.2.1 x hx))).mono ?_
      rintro e x3 ⟨b, rfl, hb, hB3, hI⟩
      have HG := Aside0.mk (Nat.le_trans HY.out.size hb)
      have HB3 := Aside0.mk (below_step HY.out hB3)
      have HI := Aside0.mk hI
      have HOK := Aside0.mk (goP_okk (newP_okk 2097152 (by decide)) l0 (fun x hx => (HG0.out x hx).ok (HSM.out.2.1 x hx)))
      have HRM := Aside0.mk (go_room (newP 2097152) l0)
      clear hb hB3 hI HY
      generalize goP (newP 2097152) l0 = s0 at *
      go_wp2_with (fail)
      refine (Start_calls _ b s0 _ HI.out).mono ?_
      rintro e x4 ⟨rfl, hI, hW⟩
      have HI1 := Aside0.mk hI
      have HB4 := Aside0.mk (hW.below HB3.out HG.out)
      have HOK1 := Aside0.mk HOK.out.start
      have HRM1 := Aside0.mk (show (startP s0).1.room ≠ 0 by rw [start_room, HRM.out]; decide)
      have HOF1 := Aside0.mk (show (startP s0).1.off = false by rw [Dk.start_eq (show s0.room ≠ 0 by rw [HRM.out]; decide)])
      clear hI hW HI HB3 HOK HRM
      generalize (startP s0).1 = s1 at *
      generalize (startP s0).2 = er at *
      go_wp2_with (fail)
      clear f1
      refine (Sync_calls _ b s1 (i : Int) _ HI1.out HOK1.out).mono ?_
      rintro e x5 ⟨rfl, hI, hW⟩
      have HI2 := Aside0.mk hI
      have HB5 := Aside0.mk (hW.below HB4.out HG.out)
      have HOK2 := Aside0.mk (HOK1.out.sync (i : Int))
      clear hI hW HI1 HB4
      rcases sync_on HOK1.out HRM1.out HOF1.out HI8.out with hs | ⟨hs, hs1, hs2, hs3, hs4⟩
      · rw [hs]
        clear hs
        go_wp2_with (fail)
        refine (awake_calls x5).mono ?_
        rintro e x6 ⟨rfl, hb6⟩
        have HZ := Aside0.mk (below_step HB5.out hb6)
        clear hb6
        go_wp2_with (fail)
        go_ret
        exact ⟨rfl, HZ.out⟩
      · rw [hs]
        have HRM2 := Aside0.mk (show (syncP s1 (i : Int)).1.room ≠ 0 by rw [hs1]; exact HRM1.out)
        have HOF2 := Aside0.mk hs2
        have HLI2 := Aside0.mk hs3
        have HSN := Aside0.mk hs4
        clear hs hs1 hs2 hs3 hs4
        generalize (syncP s1 (i : Int)).1 = s2 at *
        go_wp2_with (fail)
        refine (Read_calls _ b s2 (i : Int) _ HI2.out HOK2.out.1).mono ?_
        rintro e x6 ⟨v, rfl, hR, hb6⟩
        have hrd : readP s2 (i : Int) = ((fl s1 i).seen, 0) := by
          unfold readP
          rw [if_neg (by rw [able_on HI8.out HRM2.out HOF2.out]; decide), Int.toNat_natCast, HSN.out]
        rw [hrd] at hR
        rw [hrd]
        have HVR := Aside0.mk (Rw.of_R (G := fun k => k = b) hR (fun k hk => hk ▸ HI2.out.ltg))
        obtain ⟨A, c, e3⟩ := Kd.R_slice hR
        subst e3
        have HI6 := Aside0.mk (HI2.out.below hb6)
        have HB6 := Aside0.mk (below_step HB5.out hb6)
        clear hR hrd hb6 HI2 HB5 HSN HOK1 HRM1 HOF1
        generalize (fl s1 i).seen = was at *
        go_wp2_with (fail)
        have HE := Aside0.mk (show goP s2 (l1.take l1.length) = goP s2 l1 by rw [List.take_length])
        have HSZ : (0 : Int) ≤ (l1.length : Int) := by omega
        go_loopw [46] (fun v46 wr => ∃ j : Nat, j ≤ l1.length ∧ v46 = .int .i64 (j : Int) ∧ Aside0 (IsD (fun k => k < x2.heap.size ∨ k = b) wr b (goP s2 (l1.take j))) ∧ Aside0 (Below W.heap.size W wr) ∧ Aside0 (LI (goP s2 (l1.take j)) i was) ∧ Aside0 (Rw (fun k => k = b) .u8 wr (.slice A was.length c) was)) (fun v46 _ => (l1.length - intOf v46).toNat)
        case atStart => exact ⟨0, by omega, rfl, HI6, HB6, HLI2, HVR⟩
        case round =>
          obtain ⟨j, hj, rfl, H, HW, HLI, HV⟩ := hrel
          clear HI6 HB6 HVR HLI2
          by_cases hlt : j < l1.length
          · obtain ⟨ad, A3, c3, A4, c4, e1, h0, h1, h2, h3, h4, l3, g3, l4', g4⟩ := at_T35 HC1.out (j : Int) (by omega) (by omega)
            cases e1
            rw [Int.toNat_natCast] at h0 h1 h2 h3 h4
            have HST := Aside0.mk (goP_step s2 l1 hlt)
            have HO := Aside0.mk ((HG1.out _ (rd_mem hlt)).ok (HSM.out.2.2 _ (rd_mem hlt)))
            have HOK := Aside0.mk (goP_okk HOK2.out (l1.take j) (fun x hx => (HG1.out x (List.mem_of_mem_take hx)).ok (HSM.out.2.2 x (List.mem_of_mem_take hx))))
            have HR3 := Aside0.mk ((Rw.came (G := fun k => k = b) g3 l3 (fun k hk => hk ▸ HG.out)).below HW.out)
            have HR4 := Aside0.mk ((Rw.came (G := fun k => k = b) g4 l4' (fun k hk => hk ▸ HG.out)).below HW.out)
            replace h0 := (HW.out.cell (World.block_lt_of_cell? W _ h0)).trans h0
            replace h1 := (HW.out.cell (World.block_lt_of_cell? W _ h1)).trans h1
            replace h2 := (HW.out.cell (World.block_lt_of_cell? W _ h2)).trans h2
            replace h3 := (HW.out.cell (World.block_lt_of_cell? W _ h3)).trans h3
            replace h4 := (HW.out.cell (World.block_lt_of_cell? W _ h4)).trans h4
            clear g3 g4 l3 l4'
            generalize rd_T35 l1 (j : Int) = x at *
            have hkd := kind_wrap x.f0
            by_cases q4 : kind x.f0 = 4
            · have t4 : (wrap64 ((IntKind.u64.wrap x.f0).tmod 9) == 4) = true := by rw [hkd, q4]; rfl
              by_cases qi : x.f1 = (i : Int)
              · have ti : (x.f1 == (i : Int)) = true := by simpa using qi
                clear hkd q4 HST HOK HO
                go_wp2_with (fail)
                refine (awake_calls _).mono ?_
                rintro e y1 ⟨rfl, hb7⟩
                have HZ := Aside0.mk (below_step (below_alloc HW.out _) hb7)
                clear hb7
                go_wp2_with (fail)
                go_ret
                exact ⟨rfl, HZ.out⟩
              · have ti : (x.f1 == (i : Int)) = false := by simpa using qi
                have HKK := Aside0.mk (show kind (toDd x).op = 4 → (toDd x).i ≠ (i : Int) from fun _ => qi)
                clear hkd q4
                go_wp2_with (fail)
                refine (does_calls _ b _ (toDd x) _ _ _ (H.out.al _) HOK.out HO.out (HR3.out.below (below_alloc (Below.refl _ _) _)) (HR4.out.below (below_alloc (Below.refl _ _) _))).mono ?_
                rintro e y1 ⟨rfl, hI, hW⟩
                have hli := HLI.out.does HOK.out HI8.out (toDd x) HKK.out
                rw [← HST.out] at hI hli
                have HIN := Aside0.mk hI
                have HLN := Aside0.mk hli
                have HWF := Aside0.mk (hW.below (below_alloc HW.out _) HG.out)
                have HVN := Aside0.mk ((HV.out.below (below_alloc (Below.refl _ _) _)).wr hW rfl)
                clear hI hW hli h0 h1 h2 h3 h4
                generalize (doesP (goP s2 (l1.take j)) (toDd x)).2 = er2
                go_wp2_with (fail)
                go_roundw
                case rel => exact ⟨j + 1, by omega, by rw [wrap_succ hlt HM1.out], HIN, HWF, HLN, HVN⟩
                case measure =>
                  rw [wrap_succ hlt HM1.out]
                  simp [intOf]; omega
            · have t4 : (wrap64 ((IntKind.u64.wrap x.f0).tmod 9) == 4) = false := by rw [hkd]; simpa using q4
              have HKK := Aside0.mk (show kind (toDd x).op = 4 → (toDd x).i ≠ (i : Int) from fun h => absurd h q4)
              clear hkd q4
              go_wp2_with (fail)
              refine (does_calls _ b _ (toDd x) _ _ _ (H.out.al _) HOK.out HO.out (HR3.out.below (below_alloc (Below.refl _ _) _)) (HR4.out.below (below_alloc (Below.refl _ _) _))).mono ?_
              rintro e y1 ⟨rfl, hI, hW⟩
              have hli := HLI.out.does HOK.out HI8.out (toDd x) HKK.out
              rw [← HST.out] at hI hli
              have HIN := Aside0.mk hI
              have HLN := Aside0.mk hli
              have HWF := Aside0.mk (hW.below (below_alloc HW.out _) HG.out)
              have HVN := Aside0.mk ((HV.out.below (below_alloc (Below.refl _ _) _)).wr hW rfl)
              clear hI hW hli h0 h1 h2 h3 h4
              generalize (doesP (goP s2 (l1.take j)) (toDd x)).2 = er2
              go_wp2_with (fail)
              go_roundw
              case rel => exact ⟨j + 1, by omega, by rw [wrap_succ hlt HM1.out], HIN, HWF, HLN, HVN⟩
              case measure =>
                rw [wrap_succ hlt HM1.out]
                simp [intOf]; omega
          · obtain rfl : j = l1.length := by omega
            rw [HE.out] at H HLI
            go_wp2_with (fail)
            refine (Start_calls _ b _ _ H.out).mono ?_
            rintro e y1 ⟨rfl, hI, hW⟩
            have HOK := Aside0.mk (goP_okk HOK2.out l1 (fun x hx => (HG1.out x hx).ok (HSM.out.2.2 x hx)))
            have HRM3 := Aside0.mk (show (goP s2 l1).room ≠ 0 by rw [go_room]; exact HRM2.out)
            have HLI3 := Aside0.mk (HLI.out.same (show fl (startP (goP s2 l1)).1 i = fl (goP s2 l1) i by rw [Dk.start_eq HRM3.out]; rfl))
            have HOK3 := Aside0.mk HOK.out.start
            have HRM4 := Aside0.mk (show (startP (goP s2 l1)).1.room ≠ 0 by rw [start_room]; exact HRM3.out)
            have HOF4 := Aside0.mk (show (startP (goP s2 l1)).1.off = false by rw [Dk.start_eq HRM3.out])
            have HI7 := Aside0.mk hI
            have HB7 := Aside0.mk (hW.below HW.out HG.out)
            have HV7 := Aside0.mk (HV.out.wr hW rfl)
            clear hI hW H HW HLI HV HOK HRM3 HE
            generalize (startP (goP s2 l1)).1 = s3 at *
            generalize (startP (goP s2 l1)).2 = er3 at *
            go_wp2_with (fail)
            have HKC := Aside0.mk ((Rw.came (G := fun k => k = b) HC4.out HL4.out (fun k hk => hk ▸ HG.out)).below HB7.out)
            refine (Crash_calls _ b s3 _ l4 _ HI7.out HOK3.out HKC.out (fun x hx => wfI_range (HG4.out x hx))).mono ?_
            rintro e y2 ⟨rfl, hI, hW⟩
            have hq := crash_on HRM4.out HOF4.out l4
            rw [hq] at hI
            rw [hq]
            have HI8' := Aside0.mk hI
            have HB8 := Aside0.mk (hW.below HB7.out HG.out)
            have HV8 := Aside0.mk (HV7.out.wr hW rfl)
            have HLI4 := Aside0.mk (HLI3.out.fall HOK3.out.1 HI8.out l4)
            have HOK4 := Aside0.mk (HOK3.out.fall l4)
            have HRM5 := Aside0.mk (show (fallP s3 l4).room ≠ 0 from HRM4.out)
            clear hI hW hq HI7 HB7 HV7 HLI3 HOK3
            generalize fallP s3 l4 = s4 at *
            go_wp2_with (fail)
            refine (files_calls _ b s4 _ HI8'.out HOK4.out).mono ?_
            rintro e y3 ⟨VS, rfl, hv1, hf1, hI, hW⟩
            have HB9 := Aside0.mk (hW.below HB8.out HG.out)
            have HV9 := Aside0.mk (HV8.out.wr hW rfl)
            have hix := fun W => agg_index hv1 HI8.out W
            have hrow := hf1 i HI8.out
            rw [filesP_start HI8.out HRM5.out] at hrow
            obtain ⟨A9, c9, e9, l9, g9⟩ := hrow.slice
            rw [e9] at hix
            have HG9 := Aside0.mk (And.intro l9 g9)
            have HPR := Aside0.mk (hasP_pre (HLI4.out.seen HOK4.out.1 HI8.out))
            clear hI hW hv1 hf1 hrow e9 l9 g9 HI8' HB8 HV8 HLI4
            generalize (fl s4 i).seen = now at *
            go_wp2_with (fail)
            obtain ⟨hvl, hvc⟩ := (Kd.V_reads' HV9.out).2
            refine (HasPrefix_calls A9 c9 now A c was y3 HG9.out.2 HG9.out.1 hvc hvl).mono ?_
            rintro e y4 ⟨rfl, hb⟩
            rw [HPR.out]
            have HBa := Aside0.mk (below_step HB9.out hb)
            clear hb HB9 hvl hvc
            go_wp2_with (fail)
            refine (awake_calls y4).mono ?_
            rintro e y5 ⟨rfl, hb⟩
            have HBb := Aside0.mk (below_step HBa.out hb)
            clear hb HBa
            go_wp2_with (fail)
            go_ret
            exact ⟨rfl, HBb.out⟩
end Go.Proofs.Ytnnkohddhiecoaa.Wk
