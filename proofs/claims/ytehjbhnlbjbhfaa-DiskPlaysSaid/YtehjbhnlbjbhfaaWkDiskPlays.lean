/- A disk tells what the document says, call by call: the walk of the law. -/
import Derived.Test.YtehjbhnlbjbhfaaRdI
namespace Go.Proofs.Ytehjbhnlbjbhfaa.Wk
open Go Go.RowKit Go.Proofs.YtehjbhnlbjbhfaaW.PrintWords Go.Proofs.YtehjbhnlbjbhfaaW.PrintLast Go.Proofs.YtehjbhnlbjbhfaaW.PrintMore Go.Proofs.Ytehjbhnlbjbhfaa.Dk Go.Proofs.Ytehjbhnlbjbhfaa.Rd
open Go.Proofs.Ytehjbhnlbjbhfaa.PDiskBegins
attribute [local go_sem] max2_int min2_int max_two min_two
set_option linter.unusedVariables false
set_option linter.unusedSimpArgs false
theorem wf_u8 {a : Int} (h : (Lit.int .u8 a).wf = true) : 0 ≤ a ∧ a < 256 := by
  have h2 : (decide (IntKind.u8.min ≤ a) && decide (a ≤ IntKind.u8.max)) = true := h
  rw [Bool.and_eq_true, decide_eq_true_eq, decide_eq_true_eq, show IntKind.u8.min = 0 from rfl, show IntKind.u8.max = 255 from rfl] at h2
  omega
set_option maxHeartbeats 32000000 in
set_option maxRecDepth 100000 in
theorem DiskPlays {W : World} (a0 : Int) (w0 : (Lit.int .i64 a0).wf = true) (A0 : Option Addr) (cap0 : Nat) (l0 : List S35) (hl0 : l0.length ≤ cap0) (hC0 : k35.C W A0 l0.length l0) (hG0 : ∀ x ∈ l0, GDo x) :
    Calls Try.prog 3 #[.int .i64 a0, .slice A0 l0.length cap0] W fun e w' => e = .returned (.bool true) ∧ Below W.heap.size W w' := by
  have HC0 := Aside0.mk hC0
  have HL0 := Aside0.mk hl0
  have HG0 := Aside0.mk hG0
  clear hC0 hG0 hl0
  by_cases cr : a0 < 1 ∨ 4194304 < a0
  · have HN := Aside0.mk (fun w => New_bad a0 w cr)
    have HX := Aside0.mk (fun w => RNew_bad a0 w cr)
    clear cr w0
    go_enter Try.func3, Try.ntmps3
    go_wp2_with (fail)
    refine (HN.out _).mono ?_
    rintro e w1 ⟨rfl, rfl⟩
    go_wp2_with (fail)
    refine (HX.out _).mono ?_
    rintro e w2 ⟨rfl, rfl⟩
    go_wp2_with (fail)
    refine (awake_calls _).mono ?_
    rintro e w3 ⟨rfl, hb⟩
    go_wp2_with (fail)
    go_ret
    exact ⟨rfl, hb⟩
  · have HR := Aside0.mk (show 1 ≤ a0 ∧ a0 ≤ 4194304 by omega)
    clear cr w0
    go_enter Try.func3, Try.ntmps3
    go_wp2_with (fail)
    refine (New_calls a0 W HR.out.1 HR.out.2).mono ?_
    rintro e w1 ⟨b, rfl, hb1, hb2, hB1, hI1⟩
    go_wp2_with (fail)
    refine (RNew_calls a0 w1 HR.out.1 HR.out.2).mono ?_
    rintro e w2 ⟨x, rfl, hx1, hx2, hB2, hI2⟩
    have HBX := Aside0.mk (show b ≠ x by omega)
    have HBLE := Aside0.mk hb1
    have HXLE := Aside0.mk (Nat.le_trans hB1.size hx1)
    have HB2 := Aside0.mk (below_step hB1 hB2)
    obtain ⟨G0, hGG⟩ : ∃ G0 : Nat → Prop, G0 = fun k => k = b ∨ k = x := ⟨_, rfl⟩
    have HGG := Aside0.mk hGG
    have hd2 : IsD G0 w2 b (newP a0) := by
      have h := Rd.IsD.moreN (hI1 (fun k => k = b) (fun k hk => hk ▸ hb2) rfl) hB2
      refine h.grow (fun k hk => ?_) (by rw [hGG]; exact .inl rfl) (fun k _ hk => ?_)
      · rw [hGG] at hk
        rcases hk with rfl | rfl
        · exact Nat.lt_of_lt_of_le hb2 hB2.size
        · exact hx2
      · rw [hGG] at hk
        rcases hk with rfl | rfl
        · exact .inl rfl
        · exact .inr ⟨hx1, hx2⟩
    have hx2' : IsX G0 w2 x (newP a0) := hI2 G0 (fun k hk => by
      rw [hGG] at hk
      rcases hk with rfl | rfl
      · exact Nat.lt_of_lt_of_le hb2 hB2.size
      · exact hx2) (by rw [hGG]; exact .inr rfl)
    have HBO := Aside0.mk (show Both G0 W w2 b x (newP a0) from ⟨hd2, hx2', HB2.out⟩)
    have HOK0 := Aside0.mk (newP_okk a0 (by have := HR.out; omega))
    have HDB0 := Aside0.mk (DB.new a0)
    have HRM0 := Aside0.mk (show (newP a0).room ≠ 0 by show a0 ≠ 0; have := HR.out; omega)
    obtain ⟨r, hr, hsh⟩ := short1 l0 A0 cap0 w2 (Kd.C_below HC0.out HB2.out) HL0.out
    have HRS := Aside0.mk hr
    have HSH := Aside0.mk hsh
    have HLM := Aside0.mk (Kd.C_max HC0.out)
    clear hd2 hx2' hI1 hI2 hb1 hb2 hB1 hB2 hx1 hx2 hGG hr hsh HR
    go_wp2_with (fail)
    refine HSH.out.mono ?_
    rintro e w3 ⟨rfl, hb3⟩
    have HBO3 := Aside0.mk (HBO.out.below hb3)
    clear hb3 HSH HBO HB2
    cases r with
    | false =>
      go_wp2_with (fail)
      refine (awake_calls _).mono ?_
      rintro e w4 ⟨rfl, hb⟩
      have HB4 := Aside0.mk (below_step HBO3.out.w hb)
      clear hb
      go_wp2_with (fail)
      go_ret
      exact ⟨rfl, HB4.out⟩
    | true =>
      have HSM := Aside0.mk (HRS.out rfl).2
      clear HRS
      go_wp2_with (fail)
      go_loopw [53] (fun v53 wr => ∃ (j : Nat) (s : DS), j ≤ l0.length ∧ v53 = .int .i64 (j : Int) ∧ Aside0 (Okk s) ∧ Aside0 (DB s) ∧ Aside0 (s.room ≠ 0) ∧ Aside0 (Both G0 W wr b x s)) (fun v53 _ => (l0.length - intOf v53).toNat)
      case atStart => exact ⟨0, newP a0, by omega, rfl, HOK0, HDB0, HRM0, HBO3⟩
      case round =>
        clear HOK0 HDB0 HRM0 HBO3
        obtain ⟨j, s, hj, rfl, HOK, HDB, HRM, HBO⟩ := hrel
        by_cases hlt : j < l0.length
        · obtain ⟨ad, A, ca, B, cb, e1, h0, h1, h2, h3, h4, l3, g3, l4, g4⟩ := at_T35 HC0.out (j : Int) (by omega) (by omega)
          cases e1
          rw [Int.toNat_natCast] at h0 h1 h2 h3 h4
          have HJL := Aside0.mk hlt
          have hg := HG0.out _ (rd_mem hlt)
          have hsm := HSM.out _ (rd_mem hlt)
          generalize rd_T35 l0 (j : Int) = el at *
          have HDO := Aside0.mk (hg.ok hsm)
          have HBY := Aside0.mk (show By el.f3 from fun y hy => wf_u8 (hg.2.2.2.1 y hy))
          obtain ⟨op, i, n, bs, ks⟩ := el
          simp only at h0 h1 h2 h3 h4 l3 g3 l4 g4 HBY
          replace HDO : Aside0 ((⟨op, i, n, bs, ks⟩ : Dd).ok) := HDO
          have HCB := Aside0.mk g3
          have HCK := Aside0.mk g4
          have HBL := Aside0.mk (And.intro l3 (show bs.length < 140737488355328 from Nat.lt_of_lt_of_le HDO.out.2.2.2 (by decide)))
          have HKL := Aside0.mk (And.intro l4 (show ks.length < 17592186044416 from Nat.lt_of_lt_of_le HDO.out.2.2.1 (by decide)))
          have HW := Aside0.mk HBO.out.w
          replace h0 := (HW.out.cell (World.block_lt_of_cell? W _ h0)).trans h0
          replace h1 := (HW.out.cell (World.block_lt_of_cell? W _ h1)).trans h1
          replace h2 := (HW.out.cell (World.block_lt_of_cell? W _ h2)).trans h2
          replace h3 := (HW.out.cell (World.block_lt_of_cell? W _ h3)).trans h3
          replace h4 := (HW.out.cell (World.block_lt_of_cell? W _ h4)).trans h4
          clear g3 g4 l3 l4 hg hsm
          go_wp2_with (fail)
          clear h0 h1 h2 h3 h4
          have HG10 := Aside0.mk (blk_alloc (blk_new wr (.cells #[.int .i64 op, .int .i64 i, .int .i64 n, .slice A bs.length ca, .slice B ks.length cb] 35)) (.cells #[.int .i64 op, .int .i64 i, .int .i64 n, .slice A bs.length ca, .slice B ks.length cb] 35))
          have HG11 := Aside0.mk (blk_new (wr.alloc (.cells #[.int .i64 op, .int .i64 i, .int .i64 n, .slice A bs.length ca, .slice B ks.length cb] 35)) (.cells #[.int .i64 op, .int .i64 i, .int .i64 n, .slice A bs.length ca, .slice B ks.length cb] 35))
          rw [show (wr.alloc (.cells #[.int .i64 op, .int .i64 i, .int .i64 n, .slice A bs.length ca, .slice B ks.length cb] 35)).heap.size = wr.heap.size + 1 by simp] at HG11
          have hbr := (below_alloc (below_alloc (Below.refl wr.heap.size wr) (.cells #[.int .i64 op, .int .i64 i, .int .i64 n, .slice A bs.length ca, .slice B ks.length cb] 35)) (.cells #[.int .i64 op, .int .i64 i, .int .i64 n, .slice A bs.length ca, .slice B ks.length cb] 35))
          have HBR := Aside0.mk (below_drew1 hbr)
          have HBW := Aside0.mk (below_step HW.out (below_drew1 hbr))
          have HG11L := Aside0.mk (show wr.heap.size ≤ wr.heap.size + 1 by omega)
          have HG11W := Aside0.mk (show W.heap.size ≤ wr.heap.size + 1 by have := HW.out.size; omega)
          have HG1N := Aside0.mk (show True from trivial)
          clear hbr
          generalize (wr.alloc (.cells #[.int .i64 op, .int .i64 i, .int .i64 n, .slice A bs.length ca, .slice B ks.length cb] 35)).alloc (.cells #[.int .i64 op, .int .i64 i, .int .i64 n, .slice A bs.length ca, .slice B ks.length cb] 35) = w5 at *
          have n_ := Aside0.mk (blk_drew HG11.out)
          clear HG11
          have HG11 := n_
          clear n_
          refine start_ (n := 10) (S := fun w' => w'.heap[wr.heap.size]? = some (.cells #[.int .i64 op, .int .i64 i, .int .i64 n, .slice A bs.length ca, .slice B ks.length cb] 35 (0, 0)) ∧ Below W.heap.size W w') (ds := []) #[false, false, false, false, false, false, false, false, false, false] (by kernel_rfl) rfl rfl ⟨HG10.out, HBW.out⟩ (fun hHeld => ?_)
          refine pure_ (i := 0) (N := some 58) (v := ?_) (a' := ?_) #[true, false, false, false, false, false, false, false, false, false] rfl rfl (by kernel_rfl) (fun _ _ _ h => h) (Or.inl ⟨by rfl, ?_⟩) ?_ ?_
          rotate_left
          · intro w'
            go_simp
            with_reducible rfl
          rotate_left
          · simp only [Act.put, List.setIfInBounds_toArray, List.set_cons_zero, List.set_cons_succ, i64_w, i32_w]
            rfl
          refine pure_ (i := 3) (N := some 61) (v := ?_) (a' := ?_) #[true, false, false, true, false, false, false, false, false, false] rfl rfl (by kernel_rfl) (fun _ _ _ h => h) (Or.inl ⟨by rfl, ?_⟩) ?_ ?_
          rotate_left
          · intro w'
            go_simp
            with_reducible rfl
          rotate_left
          · simp only [Act.put, List.setIfInBounds_toArray, List.set_cons_zero, List.set_cons_succ, i64_w, i32_w]
            rfl
          refine take_ (i := 1) (N := some 59) (v := ?_) (a' := ?_) #[true, true, false, true, false, false, false, false, false, false] rfl rfl (by kernel_rfl) (fun _ _ _ h => h) (Or.inl ⟨by rfl, ?_⟩) hHeld ?_ ?_
          rotate_left
          · rintro w' ⟨s0, s1⟩
            have d3_ := (blk_cell s0 3).trans (show _ = some (Value.slice A bs.length ca) from rfl)
            go_simp
            with_reducible rfl
          rotate_left
          · simp only [Act.put, List.setIfInBounds_toArray, List.set_cons_zero, List.set_cons_succ, i64_w, i32_w]
            rfl
          refine take_ (i := 4) (N := some 62) (v := ?_) (a' := ?_) #[true, true, false, true, true, false, false, false, false, false] rfl rfl (by kernel_rfl) (fun _ _ _ h => h) (Or.inl ⟨by rfl, ?_⟩) hHeld ?_ ?_
          rotate_left
          · rintro w' ⟨s0, s1⟩
            have d4_ := (blk_cell s0 4).trans (show _ = some (Value.slice B ks.length cb) from rfl)
            go_simp
            with_reducible rfl
          rotate_left
          · simp only [Act.put, List.setIfInBounds_toArray, List.set_cons_zero, List.set_cons_succ, i64_w, i32_w]
            rfl
          refine one_ (i := 2) (N := some 60) #[true, true, true, true, true, false, false, false, false, false] rfl rfl (by kernel_rfl) (by decide) (fun K hK => ?_)
          refine goes_ Try.func14 (by kernel_rfl) rfl #[.slice A bs.length ca] (by rfl) rfl rfl (by first | rfl | (simp; done) | (simp only [List.map_toArray, List.map_cons, List.map_nil]; rfl)) ?_
          with_reducible refine (Clone_b A ca bs _ (Kd.C_below HCB.out hHeld.2) HBL.out.1 HBL.out.2).mono ?_
          rintro e w3 ⟨v1, rfl, hR1, hb⟩
          refine ⟨_, rfl, ?_⟩
          obtain ⟨A1, c1, e1⟩ := Kd.R_slice hR1
          subst e1
          have HR1 := Aside0.mk (Kd.R_lower hR1 HBR.out.size)
          clear hR1
          have n0_ := Aside0.mk (below_step HBR.out hb)
          clear HBR
          have HBR := n0_
          clear n0_
          have n0_ := Aside0.mk (blk_below HG11.out hb)
          clear HG11
          have HG11 := n0_
          clear n0_
          refine hK.out _ _ ⟨blk_below hHeld.1 hb, below_step hHeld.2 hb⟩ (fun hHeld => ?_)
          clear hK K
          refine norm_ (a' := ?_) ?_ ?_
          rotate_left
          · show Act.put _ (some 60) _ = _
            simp only [Act.put, List.setIfInBounds_toArray, List.set_cons_zero, List.set_cons_succ, i64_w, i32_w]
            rfl
          refine pure_ (i := 6) (N := some 64) (v := ?_) (a' := ?_) #[true, true, true, true, true, false, true, false, false, false] rfl rfl (by kernel_rfl) (fun _ _ _ h => h) (Or.inl ⟨by rfl, ?_⟩) ?_ ?_
          rotate_left
          · intro w'
            go_simp
            with_reducible rfl
          rotate_left
          · simp only [Act.put, List.setIfInBounds_toArray, List.set_cons_zero, List.set_cons_succ, i64_w, i32_w]
            rfl
          refine one_ (i := 5) (N := some 63) #[true, true, true, true, true, true, true, false, false, false] rfl rfl (by kernel_rfl) (by decide) (fun K hK => ?_)
          refine goes_ Try.func15 (by kernel_rfl) rfl #[.slice B ks.length cb] (by rfl) rfl rfl (by first | rfl | (simp; done) | (simp only [List.map_toArray, List.map_cons, List.map_nil]; rfl)) ?_
          with_reducible refine (Clone_i B cb ks _ (Kd.C_below HCK.out hHeld.2) HKL.out.1 HKL.out.2).mono ?_
          rintro e w3 ⟨v2, rfl, hR2, hb⟩
          refine ⟨_, rfl, ?_⟩
          obtain ⟨A2, c2, e2⟩ := Kd.R_slice hR2
          subst e2
          have HR2 := Aside0.mk (Kd.R_lower hR2 HBR.out.size)
          clear hR2
          have n0_ := Aside0.mk (Kd.R_below HR1.out hb)
          clear HR1
          have HR1 := n0_
          clear n0_
          have n0_ := Aside0.mk (below_step HBR.out hb)
          clear HBR
          have HBR := n0_
          clear n0_
          have n0_ := Aside0.mk (blk_below HG11.out hb)
          clear HG11
          have HG11 := n0_
          clear n0_
          refine hK.out _ _ ⟨blk_below hHeld.1 hb, below_step hHeld.2 hb⟩ (fun hHeld => ?_)
          clear hK K
          refine norm_ (a' := ?_) ?_ ?_
          rotate_left
          · show Act.put _ (some 63) _ = _
            simp only [Act.put, List.setIfInBounds_toArray, List.set_cons_zero, List.set_cons_succ, i64_w, i32_w]
            rfl
          refine one_ (i := 7) (N := none) #[true, true, true, true, true, true, true, true, false, false] rfl rfl (by kernel_rfl) (by decide) (fun K hK => ?_)
          have hcS := (blk_cell HG11.out 3).trans (show _ = some (Value.slice A bs.length ca) from rfl)
          have hfS := blk_frozen HG11.out 3
          have n0_ := Aside0.mk (Kd.R_set HR1.out HG11.out (fun q hq => by have h9 : q = 5 := (by simpa [Kd.int, Kd.scalar] using hq); omega) 3 (.slice A1 bs.length c1))
          clear HR1
          have HR1 := n0_
          clear n0_
          have n0_ := Aside0.mk (Kd.R_set HR2.out HG11.out (fun q hq => by have h9 : q = 3 := (by simpa [Kd.int, Kd.scalar] using hq); omega) 3 (.slice A1 bs.length c1))
          clear HR2
          have HR2 := n0_
          clear n0_
          have n0_ := Aside0.mk (HBR.out.setCell (p := ⟨(wr.heap.size + 1), 3, none⟩) HG11L.out (.slice A1 bs.length c1))
          clear HBR
          have HBR := n0_
          clear n0_
          have n0_ := Aside0.mk (blk_put (cs' := #[.int .i64 op, .int .i64 i, .int .i64 n, .slice A1 bs.length c1, .slice B ks.length cb]) HG11.out 3 (.slice A1 bs.length c1) rfl)
          clear HG11
          have HG11 := n0_
          clear n0_
          refine skip_ (w1 := ?_) (by rfl) rfl ?_ ?_
          rotate_left
          · go_simp
            rfl
          refine hK.out _ _ ⟨blk_far hHeld.1 (by have := HG1N.out; show wr.heap.size ≠ (wr.heap.size + 1); omega) _, hHeld.2.setCell (p := ⟨(wr.heap.size + 1), 3, none⟩) HG11W.out _⟩ (fun hHeld => ?_)
          clear hK K
          refine pure_ (i := 8) (N := some 65) (v := ?_) (a' := ?_) #[true, true, true, true, true, true, true, true, true, false] rfl rfl (by kernel_rfl) (fun _ _ _ h => h) (Or.inl ⟨by rfl, ?_⟩) ?_ ?_
          rotate_left
          · intro w'
            go_simp
            with_reducible rfl
          rotate_left
          · simp only [Act.put, List.setIfInBounds_toArray, List.set_cons_zero, List.set_cons_succ, i64_w, i32_w]
            rfl
          refine one_ (i := 9) (N := none) #[true, true, true, true, true, true, true, true, true, true] rfl rfl (by kernel_rfl) (by decide) (fun K hK => ?_)
          have hcS := (blk_cell HG11.out 4).trans (show _ = some (Value.slice B ks.length cb) from rfl)
          have hfS := blk_frozen HG11.out 4
          have n0_ := Aside0.mk (Kd.R_set HR1.out HG11.out (fun q hq => by have h9 : q = 5 := (by simpa [Kd.int, Kd.scalar] using hq); omega) 4 (.slice A2 ks.length c2))
          clear HR1
          have HR1 := n0_
          clear n0_
          have n0_ := Aside0.mk (Kd.R_set HR2.out HG11.out (fun q hq => by have h9 : q = 3 := (by simpa [Kd.int, Kd.scalar] using hq); omega) 4 (.slice A2 ks.length c2))
          clear HR2
          have HR2 := n0_
          clear n0_
          have n0_ := Aside0.mk (HBR.out.setCell (p := ⟨(wr.heap.size + 1), 4, none⟩) HG11L.out (.slice A2 ks.length c2))
          clear HBR
          have HBR := n0_
          clear n0_
          have n0_ := Aside0.mk (blk_put (cs' := #[.int .i64 op, .int .i64 i, .int .i64 n, .slice A1 bs.length c1, .slice A2 ks.length c2]) HG11.out 4 (.slice A2 ks.length c2) rfl)
          clear HG11
          have HG11 := n0_
          clear n0_
          refine skip_ (w1 := ?_) (by rfl) rfl ?_ ?_
          rotate_left
          · go_simp
            rfl
          refine hK.out _ _ ⟨blk_far hHeld.1 (by have := HG1N.out; show wr.heap.size ≠ (wr.heap.size + 1); omega) _, hHeld.2.setCell (p := ⟨(wr.heap.size + 1), 4, none⟩) HG11W.out _⟩ (fun hHeld => ?_)
          clear hK K
          refine done_ (by kernel_rfl) ?_
          generalize ((w3.setCell ⟨wr.heap.size + 1, 3, none⟩ (.slice A1 bs.length c1)).setCell ⟨wr.heap.size + 1, 4, none⟩ (.slice A2 ks.length c2)) = w6 at *
          obtain ⟨hS0, hS1⟩ := hHeld
          clear HG10 HBW HG11W
          have HG10 := Aside0.mk (blk_drew hS0)
          have n_ := Aside0.mk (blk_drew HG11.out)
          clear HG11
          have HG11 := n_
          clear n_
          have HLB := Aside0.mk (HBO.out.d.lt b HBO.out.d.gg)
          have HLX := Aside0.mk (HBO.out.x.lt x HBO.out.x.gg)
          have HG10L := Aside0.mk (Nat.le_refl wr.heap.size)
          obtain ⟨G1, hG1⟩ : ∃ G1 : Nat → Prop, G1 = fun k => G0 k ∨ (wr.heap.size ≤ k ∧ k < w6.heap.size) := ⟨_, rfl⟩
          have hb1 : Both G1 W w6.drew b x s := by rw [hG1]; exact (HBO.out.moreN HBR.out).below (below_drew1 (Below.refl _ _))
          have HG1B := Aside0.mk hb1.d.gg
          have HG1X := Aside0.mk hb1.x.gg
          have HD := Aside0.mk hb1.d
          have HX := Aside0.mk hb1.x
          have HBW := Aside0.mk hb1.w
          have HRB := Aside0.mk ((Rw.of_R HR1.out (G := fun k => k = b) (fun k hk => hk ▸ HLB.out)).below (below_drew1 (Below.refl w6.heap.size w6)))
          have HRK := Aside0.mk ((Rw.of_R HR2.out (G := fun k => k = b) (fun k hk => hk ▸ HLB.out)).below (below_drew1 (Below.refl w6.heap.size w6)))
          have HG1 := Aside0.mk hG1
          have n1_ := Aside0.mk (Kd.R_below (Kd.R_mono (Kd.R_bound HR1.out) (ok' := fun k => wr.heap.size ≤ k ∧ k < w6.heap.size) (fun k hk => ⟨hk.2.1, hk.2.2.1⟩)) (below_drew1 (Below.refl w6.heap.size w6)))
          have n2_ := Aside0.mk (Kd.R_below (Kd.R_mono (Kd.R_bound HR2.out) (ok' := fun k => wr.heap.size ≤ k ∧ k < w6.heap.size) (fun k hk => ⟨hk.2.1, hk.2.2.1⟩)) (below_drew1 (Below.refl w6.heap.size w6)))
          clear HR1 HR2 HBR
          have HR1 := n1_
          have HR2 := n2_
          clear n1_ n2_ hb1 hG1 hS0 hS1
          go_wp2_with (fail)
          refine start_ (n := 8) (S := fun w' => w'.heap[wr.heap.size]? = some (.cells #[.int .i64 op, .int .i64 i, .int .i64 n, .slice A bs.length ca, .slice B ks.length cb] 35 (0, 0)) ∧ w'.heap[(wr.heap.size + 1)]? = some (.cells #[.int .i64 op, .int .i64 i, .int .i64 n, .slice A1 bs.length c1, .slice A2 ks.length c2] 35 (0, 0))) (ds := []) #[false, false, false, false, false, false, false, false] (by kernel_rfl) rfl rfl ⟨HG10.out, HG11.out⟩ (fun hHeld => ?_)
          refine pure_ (i := 0) (N := some 66) (v := ?_) (a' := ?_) #[true, false, false, false, false, false, false, false] rfl rfl (by kernel_rfl) (fun _ _ _ h => h) (Or.inl ⟨by rfl, ?_⟩) ?_ ?_
          rotate_left
          · intro w'
            go_simp
            with_reducible rfl
          rotate_left
          · simp only [Act.put, List.setIfInBounds_toArray, List.set_cons_zero, List.set_cons_succ, i64_w, i32_w]
            rfl
          refine pure_ (i := 3) (N := some 69) (v := ?_) (a' := ?_) #[true, false, false, true, false, false, false, false] rfl rfl (by kernel_rfl) (fun _ _ _ h => h) (Or.inl ⟨by rfl, ?_⟩) ?_ ?_
          rotate_left
          · intro w'
            go_simp
            with_reducible rfl
          rotate_left
          · simp only [Act.put, List.setIfInBounds_toArray, List.set_cons_zero, List.set_cons_succ, i64_w, i32_w]
            rfl
          refine take_ (i := 1) (N := some 67) (v := ?_) (a' := ?_) #[true, true, false, true, false, false, false, false] rfl rfl (by kernel_rfl) (fun _ _ _ h => h) (Or.inl ⟨by rfl, ?_⟩) hHeld ?_ ?_
          rotate_left
          · rintro w' ⟨s0, s1⟩
            have d0_ := (blk_cell s1 0).trans (show _ = some (Value.int .i64 op) from rfl)
            have d1_ := (blk_cell s1 1).trans (show _ = some (Value.int .i64 i) from rfl)
            have d2_ := (blk_cell s1 2).trans (show _ = some (Value.int .i64 n) from rfl)
            have d3_ := (blk_cell s1 3).trans (show _ = some (Value.slice A1 bs.length c1) from rfl)
            have d4_ := (blk_cell s1 4).trans (show _ = some (Value.slice A2 ks.length c2) from rfl)
            go_simp
            with_reducible rfl
          rotate_left
          · simp only [Act.put, List.setIfInBounds_toArray, List.set_cons_zero, List.set_cons_succ, i64_w, i32_w]
            rfl
          refine take_ (i := 4) (N := some 70) (v := ?_) (a' := ?_) #[true, true, false, true, true, false, false, false] rfl rfl (by kernel_rfl) (fun _ _ _ h => h) (Or.inl ⟨by rfl, ?_⟩) hHeld ?_ ?_
          rotate_left
          · rintro w' ⟨s0, s1⟩
            have d0_ := (blk_cell s0 0).trans (show _ = some (Value.int .i64 op) from rfl)
            have d1_ := (blk_cell s0 1).trans (show _ = some (Value.int .i64 i) from rfl)
            have d2_ := (blk_cell s0 2).trans (show _ = some (Value.int .i64 n) from rfl)
            have d3_ := (blk_cell s0 3).trans (show _ = some (Value.slice A bs.length ca) from rfl)
            have d4_ := (blk_cell s0 4).trans (show _ = some (Value.slice B ks.length cb) from rfl)
            go_simp
            with_reducible rfl
          rotate_left
          · simp only [Act.put, List.setIfInBounds_toArray, List.set_cons_zero, List.set_cons_succ, i64_w, i32_w]
            rfl
          refine one_ (i := 2) (N := some 68) #[true, true, true, true, true, false, false, false] rfl rfl (by kernel_rfl) (by decide) (fun K hK => ?_)
          refine goes_ Try.func16 (by kernel_rfl) rfl #[.pointer (some ⟨b, 0, none⟩), .agg #[.int .i64 op, .int .i64 i, .int .i64 n, .slice A1 bs.length c1, .slice A2 ks.length c2]] (by rfl) rfl rfl (by first | rfl | (simp; done) | (simp only [List.map_toArray, List.map_cons, List.map_nil]; rfl)) ?_
          with_reducible refine (does_calls G1 b s ⟨op, i, n, bs, ks⟩ _ _ _ HD.out HOK.out HDO.out HRB.out HRK.out).mono ?_
          rintro e w3 ⟨rfl, hI, hW⟩
          refine ⟨_, rfl, ?_⟩
          have n0_ := Aside0.mk (hI)
          clear HD
          have HD := n0_
          clear n0_
          have n0_ := Aside0.mk (HX.out.other hW HG1B.out HBX.out.symm)
          clear HX
          have HX := n0_
          clear n0_
          have n0_ := Aside0.mk (hW.below HBW.out HBLE.out)
          clear HBW
          have HBW := n0_
          clear n0_
          have n0_ := Aside0.mk (Kd.R_step HR1.out (fun k hk hlt => hW.block k hlt (fun e_ => by have := HLB.out; omega)))
          clear HR1
          have HR1 := n0_
          clear n0_
          have n0_ := Aside0.mk (Kd.R_step HR2.out (fun k hk hlt => hW.block k hlt (fun e_ => by have := HLB.out; omega)))
          clear HR2
          have HR2 := n0_
          clear n0_
          refine hK.out _ _ ⟨(hW.block wr.heap.size (blk_lt hHeld.1) (by have := HLB.out; have := HG10L.out; omega)).trans hHeld.1, (hW.block (wr.heap.size + 1) (blk_lt hHeld.2) (by have := HLB.out; have := HG11L.out; omega)).trans hHeld.2⟩ (fun hHeld => ?_)
          clear hK K
          refine norm_ (a' := ?_) ?_ ?_
          rotate_left
          · show Act.put _ (some 68) _ = _
            simp only [Act.put, List.setIfInBounds_toArray, List.set_cons_zero, List.set_cons_succ, i64_w, i32_w]
            rfl
          refine one_ (i := 5) (N := some 71) #[true, true, true, true, true, true, false, false] rfl rfl (by kernel_rfl) (by decide) (fun K hK => ?_)
          refine goes_ Try.func17 (by kernel_rfl) rfl #[.pointer (some ⟨x, 0, none⟩), .agg #[.int .i64 op, .int .i64 i, .int .i64 n, .slice A bs.length ca, .slice B ks.length cb]] (by rfl) rfl rfl (by first | rfl | (simp; done) | (simp only [List.map_toArray, List.map_cons, List.map_nil]; rfl)) ?_
          with_reducible refine (also_calls G1 x s ⟨op, i, n, bs, ks⟩ _ _ _ HX.out HOK.out HRM.out HDO.out ((Rw.came (G := fun k => k = x) HCB.out HBL.out.1 (fun k hk => hk ▸ HXLE.out)).below HBW.out) ((Rw.came (G := fun k => k = x) HCK.out HKL.out.1 (fun k hk => hk ▸ HXLE.out)).below HBW.out)).mono ?_
          rintro e w3 ⟨rfl, hI, hW⟩
          refine ⟨_, rfl, ?_⟩
          have n0_ := Aside0.mk (hI)
          clear HX
          have HX := n0_
          clear n0_
          have n0_ := Aside0.mk (HD.out.other hW HG1X.out HBX.out)
          clear HD
          have HD := n0_
          clear n0_
          have n0_ := Aside0.mk (hW.below HBW.out HXLE.out)
          clear HBW
          have HBW := n0_
          clear n0_
          have n0_ := Aside0.mk (Kd.R_step HR1.out (fun k hk hlt => hW.block k hlt (fun e_ => by have := HLX.out; omega)))
          clear HR1
          have HR1 := n0_
          clear n0_
          have n0_ := Aside0.mk (Kd.R_step HR2.out (fun k hk hlt => hW.block k hlt (fun e_ => by have := HLX.out; omega)))
          clear HR2
          have HR2 := n0_
          clear n0_
          refine hK.out _ _ ⟨(hW.block wr.heap.size (blk_lt hHeld.1) (by have := HLX.out; have := HG10L.out; omega)).trans hHeld.1, (hW.block (wr.heap.size + 1) (blk_lt hHeld.2) (by have := HLX.out; have := HG11L.out; omega)).trans hHeld.2⟩ (fun hHeld => ?_)
          clear hK K
          refine norm_ (a' := ?_) ?_ ?_
          rotate_left
          · show Act.put _ (some 71) _ = _
            simp only [Act.put, List.setIfInBounds_toArray, List.set_cons_zero, List.set_cons_succ, i64_w, i32_w]
            rfl
          refine pure_ (i := 6) (N := some 12) (v := ?_) (a' := ?_) #[true, true, true, true, true, true, true, false] rfl rfl (by kernel_rfl) (fun _ _ _ h => h) (Or.inl ⟨by rfl, ?_⟩) ?_ ?_
          rotate_left
          · intro w'
            go_simp
            with_reducible rfl
          rotate_left
          · simp only [Act.put, List.setIfInBounds_toArray, List.set_cons_zero, List.set_cons_succ, i64_w, i32_w]
            rfl
          refine pure_ (i := 7) (N := some 13) (v := ?_) (a' := ?_) #[true, true, true, true, true, true, true, true] rfl rfl (by kernel_rfl) (fun _ _ _ h => h) (Or.inl ⟨by rfl, ?_⟩) ?_ ?_
          rotate_left
          · intro w'
            go_simp
            with_reducible rfl
          rotate_left
          · simp only [Act.put, List.setIfInBounds_toArray, List.set_cons_zero, List.set_cons_succ, i64_w, i32_w]
            rfl
          refine done_ (by kernel_rfl) ?_
          have HOK1 := Aside0.mk (HOK.out.does ⟨op, i, n, bs, ks⟩ HDO.out)
          have HDB1 := Aside0.mk (HDB.out.does ⟨op, i, n, bs, ks⟩ HBY.out)
          have HRM1 := Aside0.mk (show (doesP s ⟨op, i, n, bs, ks⟩).1.room ≠ 0 by rw [does_room]; exact HRM.out)
          obtain ⟨hS0, hS1⟩ := hHeld
          have hbo := (show Both G1 W w3 b x (doesP s ⟨op, i, n, bs, ks⟩).1 from ⟨HD.out, HX.out, HBW.out⟩)
          have HBO1 := Aside0.mk hbo
          have HG11 := Aside0.mk hS1
          generalize (doesP s ⟨op, i, n, bs, ks⟩).1 = s1 at *
          generalize (doesP s ⟨op, i, n, bs, ks⟩).2 = er at *
          clear hS0 hS1 hbo HD HX HBW HRB HRK HOK HDB HRM HDO HBY HBO HG10
          obtain ⟨wo, hwo⟩ : ∃ wo, wo = wr := ⟨_, rfl⟩
          subst hwo
          obtain ⟨M, hM⟩ : ∃ M, w6.heap.size = M := ⟨_, rfl⟩
          rw [hM] at HR1 HR2 HG1
          clear hM
          have hc3 := (blk_cell HG11.out 3).trans (show _ = some (Value.slice A1 bs.length c1) from rfl)
          have hm1 := HBL.out.2
          have hm2 := HKL.out.2
          go_wp2_with (fail)
          clear hc3
          go_loopw [75] (fun v75 wq => ∃ (q : Nat) (ys : List Int), q ≤ bs.length ∧ v75 = .int .i64 (q : Int) ∧ Aside0 (ys.length = bs.length) ∧ Aside0 ((Kd.int .u8).R 5 wq wo.heap.size (fun k => wo.heap.size ≤ k ∧ k < M) (.slice A1 bs.length c1) ys) ∧ Aside0 ((Kd.int .i64).R 3 wq wo.heap.size (fun k => wo.heap.size ≤ k ∧ k < M) (.slice A2 ks.length c2) ks) ∧ Aside0 (wq.heap[wo.heap.size + 1]? = some (.cells #[.int .i64 op, .int .i64 i, .int .i64 n, .slice A1 bs.length c1, .slice A2 ks.length c2] 35 (0, 0))) ∧ Aside0 (Both G1 W wq b x s1)) (fun v75 _ => (bs.length - intOf v75).toNat)
          case atStart => exact ⟨0, bs, by omega, rfl, ⟨rfl⟩, HR1, HR2, HG11, HBO1⟩
          case round =>
            clear HR1 HR2 HG11 HBO1
            obtain ⟨q, ys, hq, rfl, HYL, HR1, HR2, HG11, HBO1⟩ := hrel
            have hc3 := (blk_cell HG11.out 3).trans (show _ = some (Value.slice A1 bs.length c1) from rfl)
            have hc4 := (blk_cell HG11.out 4).trans (show _ = some (Value.slice A2 ks.length c2) from rfl)
            by_cases hqq : q < bs.length
            · obtain ⟨g, hA1, hg1, hg2, hg3, hcg, hfg, ⟨cs, hcs⟩, hput⟩ := row_put HR1.out HYL.out q hqq
              subst hA1
              have HNE := Aside0.mk (other_block HG11.out hcs (by decide))
              have HPUT := Aside0.mk hput
              have HCS := Aside0.mk hcs
              have HGG1 := Aside0.mk (show G1 g ∧ b ≠ g ∧ x ≠ g ∧ W.heap.size ≤ g by
                rw [HG1.out]
                have h1 := HLB.out
                have h2 := HLX.out
                have h3 := HW.out.size
                exact ⟨.inr hg3, by omega, by omega, by omega⟩)
              clear hcs hput hg1 hg2 hg3 hc4
              go_wp2_with (fail)
              go_roundw
              case rel => exact ⟨q + 1, _, by omega, rfl, ⟨(HPUT.out _).2⟩, ⟨(HPUT.out _).1⟩, ⟨Kd.R_set HR2.out HCS.out (fun q hq => by have h9 : q = 3 := (by simpa [Kd.int, Kd.scalar] using hq); omega) _ _⟩, ⟨blk_far HG11.out HNE.out _⟩, ⟨HBO1.out.put HGG1.out.1 HGG1.out.2.1 HGG1.out.2.2.1 HGG1.out.2.2.2 _ _⟩⟩
              case measure => simp [intOf]; omega
            · obtain rfl : q = bs.length := by omega
              go_wp2_with (fail)
              clear hc3 hc4
              go_loopw [89] (fun v89 wq => ∃ (q : Nat) (ys : List Int), q ≤ ks.length ∧ v89 = .int .i64 (q : Int) ∧ Aside0 (ys.length = ks.length) ∧ Aside0 ((Kd.int .i64).R 3 wq wo.heap.size (fun k => wo.heap.size ≤ k ∧ k < M) (.slice A2 ks.length c2) ys) ∧ Aside0 (wq.heap[wo.heap.size + 1]? = some (.cells #[.int .i64 op, .int .i64 i, .int .i64 n, .slice A1 bs.length c1, .slice A2 ks.length c2] 35 (0, 0))) ∧ Aside0 (Both G1 W wq b x s1)) (fun v89 _ => (ks.length - intOf v89).toNat)
              case atStart => exact ⟨0, ks, by omega, rfl, ⟨rfl⟩, HR2, HG11, HBO1⟩
              case round =>
                clear HR1 HR2 HG11 HBO1 HYL
                obtain ⟨q, ys, hq, rfl, HYL, HR2, HG11, HBO1⟩ := hrel
                have hc4 := (blk_cell HG11.out 4).trans (show _ = some (Value.slice A2 ks.length c2) from rfl)
                by_cases hqq : q < ks.length
                · obtain ⟨g, hA1, hg1, hg2, hg3, hcg, hfg, ⟨cs, hcs⟩, hput⟩ := row_put HR2.out HYL.out q hqq
                  subst hA1
                  have HNE := Aside0.mk (other_block HG11.out hcs (by decide))
                  have HPUT := Aside0.mk hput
                  have HGG1 := Aside0.mk (show G1 g ∧ b ≠ g ∧ x ≠ g ∧ W.heap.size ≤ g by
                    rw [HG1.out]
                    have h1 := HLB.out
                    have h2 := HLX.out
                    have h3 := HW.out.size
                    exact ⟨.inr hg3, by omega, by omega, by omega⟩)
                  clear hcs hput hg1 hg2 hg3
                  go_wp2_with (fail)
                  go_roundw
                  case rel => exact ⟨q + 1, _, by omega, rfl, ⟨(HPUT.out _).2⟩, ⟨(HPUT.out _).1⟩, ⟨blk_far HG11.out HNE.out _⟩, ⟨HBO1.out.put HGG1.out.1 HGG1.out.2.1 HGG1.out.2.2.1 HGG1.out.2.2.2 _ _⟩⟩
                  case measure => simp [intOf]; omega
                · obtain rfl : q = ks.length := by omega
                  have hbo2 : Both G0 W wr b x s1 := HBO1.out.less (by rw [HGG.out]; exact .inl rfl) (by rw [HGG.out]; exact .inr rfl) (fun k hk => by rw [HG1.out]; exact .inl hk)
                  have HBO2 := Aside0.mk hbo2
                  clear hbo2 HR2 HG11 HYL HBO1 hc4
                  go_wp2_with (fail)
                  refine (Used_calls G0 b s1 wr HBO2.out.d HOK1.out.1).mono ?_
                  rintro e w4 ⟨rfl, hb4⟩
                  have HBO3 := Aside0.mk (HBO2.out.below hb4)
                  clear hb4 HBO2
                  go_wp2_with (fail)
                  refine (RUsed_calls G0 x s1 w4 HBO3.out.x HOK1.out.1).mono ?_
                  rintro e w5' ⟨rfl, hb5⟩
                  have HBO4 := Aside0.mk (HBO3.out.below hb5)
                  clear hb5 HBO3
                  go_wp2_with (fail)
                  go_loopw [16] (fun v16 wq => ∃ q : Nat, q ≤ 10 ∧ v16 = .int .i64 ((q : Int) - 1) ∧ Aside0 (Both G0 W wq b x s1)) (fun v16 _ => (9 - intOf v16).toNat)
                  case atStart => exact ⟨0, by omega, rfl, HBO4⟩
                  case round =>
                    clear HBO4
                    obtain ⟨q, hq, rfl, HBO4⟩ := hrel
                    by_cases hqq : q < 10
                    · have d1 : decide ((q : Int) - 1 ≤ 8) = true := decide_eq_true (by omega)
                      obtain ⟨z, hz⟩ : ∃ z, (q : Int) - 1 = z := ⟨_, rfl⟩
                      have hz1 : -1 ≤ z := by omega
                      have hz2 : z ≤ 8 := by omega
                      have HZ := Aside0.mk (And.intro hz hqq)
                      rw [hz] at d1 ⊢
                      clear hz
                      go_wp2_with (fail)
                      refine (Read_calls G0 b s1 z wr HBO4.out.d HOK1.out.1).mono ?_
                      rintro e w7 ⟨v, rfl, hR, hb7⟩
                      obtain ⟨wp, hwp⟩ : ∃ wp, wp = wr := ⟨_, rfl⟩
                      subst hwp
                      obtain ⟨E, ce, rfl⟩ := Kd.R_slice hR
                      have hrr := fun (w : World) (h : IsX (fun k => G0 k ∨ (wp.heap.size ≤ k ∧ k < w7.heap.size)) w x s1) => RRead_calls (fun k => G0 k ∨ (wp.heap.size ≤ k ∧ k < w7.heap.size)) x s1 z w h HOK1.out.1 (fun f hf => (HDB1.out f hf).1)
                      rw [read_alike HRM1.out] at hrr
                      have HRR := Aside0.mk hrr
                      have HLE := Aside0.mk (show (readP s1 z).1.length ≤ 4194304 by
                        unfold readP
                        split
                        · exact Nat.zero_le _
                        · rename_i hne
                          rcases able_cases s1 z with c | ⟨_, j, hj, rfl, _, _⟩
                          · exact absurd c hne
                          · rw [Int.toNat_natCast]; exact HOK1.out.1.seen_le hj)
                      generalize (readP s1 z).1 = rl at *
                      generalize (readP s1 z).2 = re at *
                      have HR7 := Aside0.mk hR
                      have HBN := Aside0.mk (HBO4.out.moreN hb7)
                      have HSZ := Aside0.mk (show b < wp.heap.size ∧ x < wp.heap.size ∧ W.heap.size ≤ wp.heap.size from ⟨HBO4.out.d.lt b HBO4.out.d.gg, HBO4.out.x.lt x HBO4.out.x.gg, HBO4.out.w.size⟩)
                      clear hR hb7 hrr HBO4
                      go_wp2_with (fail)
                      refine (HRR.out w7 HBN.out.x).mono ?_
                      rintro e w8 ⟨F, cf, rfl, hcf, hCF, hb8⟩
                      have HB8 := Aside0.mk hb8
                      have HBN8 := Aside0.mk (HBN.out.below hb8)
                      have HR8 := Aside0.mk (Kd.R_below (Kd.R_mono (Kd.R_bound HR7.out) (ok' := fun k => wp.heap.size ≤ k ∧ k < w7.heap.size) (fun k hk => ⟨hk.2.1, hk.2.2.1⟩)) hb8)
                      have HEQ := Aside0.mk (Equal_same E ce F cf rl w8 (Kd.R_reads' HR8.out).2.2 (Kd.R_reads' HR8.out).2.1 hCF hcf)
                      have hlm : rl.length ≤ 4194304 := HLE.out
                      clear hb8 hcf hCF HRR HBN HR7
                      go_wp2_with (fail)
                      refine HEQ.out.mono ?_
                      rintro e w9 ⟨rfl, ⟨nd, rfl⟩⟩
                      have HBN9 := Aside0.mk (HBN8.out.below (pw_below_drewN (Below.refl w8.heap.size w8) nd))
                      have HR9 := Aside0.mk (Kd.R_below HR8.out (pw_below_drewN (Below.refl w8.heap.size w8) nd))
                      clear HEQ HBN8 HR8 HB8
                      generalize w8.drewN nd = w9 at *
                      go_wp2_with (fail)
                      obtain ⟨M7, hM7⟩ : ∃ M7, w7.heap.size = M7 := ⟨_, rfl⟩
                      rw [hM7] at HBN9 HR9
                      clear hM7
                      go_loopw [134] (fun v134 wq => ∃ (m : Nat) (ys : List Int), m ≤ rl.length ∧ v134 = .int .i64 (m : Int) ∧ Aside0 (ys.length = rl.length) ∧ Aside0 ((Kd.int .u8).R 5 wq wp.heap.size (fun k => wp.heap.size ≤ k ∧ k < M7) (.slice E rl.length ce) ys) ∧ Aside0 (Both (fun k => G0 k ∨ (wp.heap.size ≤ k ∧ k < M7)) W wq b x s1)) (fun v134 _ => (rl.length - intOf v134).toNat)
                      case atStart => exact ⟨0, rl, by omega, rfl, ⟨rfl⟩, HR9, HBN9⟩
                      case round =>
                        clear HR9 HBN9
                        obtain ⟨m, ys, hm, rfl, HYL, HR9, HBN9⟩ := hrel
                        by_cases hmm : m < rl.length
                        · obtain ⟨g, hA1, hg1, hg2, hg3, hcg, hfg, ⟨cs, hcs⟩, hput⟩ := row_put HR9.out HYL.out m hmm
                          subst hA1
                          have HPUT := Aside0.mk hput
                          have HGG1 := Aside0.mk (show (G0 g ∨ (wp.heap.size ≤ g ∧ g < M7)) ∧ b ≠ g ∧ x ≠ g ∧ W.heap.size ≤ g by
                            have h1 := HSZ.out
                            exact ⟨.inr hg3, by omega, by omega, by omega⟩)
                          clear hcs hput hg1 hg2 hg3
                          go_wp2_with (fail)
                          go_roundw
                          case rel => exact ⟨m + 1, _, by omega, rfl, ⟨(HPUT.out _).2⟩, ⟨(HPUT.out _).1⟩, ⟨HBN9.out.put HGG1.out.1 HGG1.out.2.1 HGG1.out.2.2.1 HGG1.out.2.2.2 _ _⟩⟩
                          case measure => simp [intOf]; omega
                        · obtain rfl : m = rl.length := by omega
                          have HBF := Aside0.mk (show Both G0 W wr b x s1 from HBN9.out.less (by rw [HGG.out]; exact .inl rfl) (by rw [HGG.out]; exact .inr rfl) (fun k hk => .inl hk))
                          clear HBN9 HR9 HYL
                          go_wp2_with (fail)
                          go_roundw
                          case rel => exact ⟨q + 1, by have := HZ.out.2; omega, by rw [show ((q + 1 : Nat) : Int) - 1 = z + 1 by have := HZ.out.1; omega], HBF⟩
                          case measure => have := HZ.out.1; simp [intOf]; omega
                    · obtain rfl : q = 10 := by omega
                      go_wp2_with (fail)
                      go_roundw
                      case rel => exact ⟨j + 1, s1, by have := HJL.out; omega, by rw [wrap_succ HJL.out HLM.out], HOK1, HDB1, HRM1, HBO4⟩
                      case measure =>
                        have := HJL.out
                        rw [wrap_succ HJL.out HLM.out]
                        simp [intOf]; omega
        · obtain rfl : j = l0.length := by omega
          go_wp2_with (fail)
          refine (awake_calls _).mono ?_
          rintro e w4 ⟨rfl, hb⟩
          have HB4 := Aside0.mk (below_step HBO.out.w hb)
          clear hb
          go_wp2_with (fail)
          go_ret
          exact ⟨rfl, HB4.out⟩
end Go.Proofs.Ytehjbhnlbjbhfaa.Wk
