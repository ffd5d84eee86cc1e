/- Texts that the row of LawTapeKept rests on, part 11 of 12: contracts of the functions, their walks, plain laws. -/
import Derived.Test.YtehjbhnlbjbhfaaBnTapeKept10
-- WkTapeKept
namespace Go.Proofs.Ytehjbhnlbjbhfaa.Wk
open Go Go.RowKit Go.Proofs.YtehjbhnlbjbhfaaW.PrintWords Go.Proofs.YtehjbhnlbjbhfaaW.PrintLast Go.Proofs.YtehjbhnlbjbhfaaW.PrintMore Go.Proofs.Ytehjbhnlbjbhfaa.Wire Go.Proofs.Ytehjbhnlbjbhfaa.Dk Go.Proofs.Ytehjbhnlbjbhfaa.Tp Go.Proofs.Ytehjbhnlbjbhfaa.Rt
open Go.Proofs.Ytehjbhnlbjbhfaa.PTapePlays
set_option linter.unusedVariables false
set_option linter.unusedSimpArgs false
set_option maxHeartbeats 32000000 in
set_option maxRecDepth 100000 in
theorem TapeKept {W : World} (A0 : Option Addr) (cap0 : Nat) (l0 : List TD) (hl0 : l0.length ≤ cap0) (hC0 : k79.C W A0 l0.length l0) (hG0 : ∀ y ∈ l0, GTD y) (a1 : Int) (w1 : (Lit.int .i64 a1).wf = true)
    (A2 : Option Addr) (cap2 : Nat) (l2 : List Int) (hl2 : l2.length ≤ cap2) (hC2 : (Kd.int .i64).C W A2 l2.length l2) (hG2 : ∀ y ∈ l2, (Lit.int .i64 y).wf = true) :
    Calls Try.prog 7 #[.slice A0 l0.length cap0, .int .i64 a1, .slice A2 l2.length cap2] W fun e w' => e = .returned (.bool true) ∧ Below W.heap.size W w' := by
  obtain ⟨r, hr, hsh⟩ := tshort1 l0 A0 cap0 W hC0 hl0
  have HRS := Aside0.mk hr
  have HSH := Aside0.mk hsh
  have HC0 := Aside0.mk (And.intro hl0 hC0)
  have HG0 := Aside0.mk hG0
  have HC2 := Aside0.mk (And.intro hl2 hC2)
  have HK2 := Aside0.mk (show I64 l2 from fun y hy => Dk.wfI_range (hG2 y hy))
  clear hl0 hC0 hG0 hr hsh w1 hl2 hC2 hG2
  cases r with
  | false =>
    go_enter Try.func7, Try.ntmps7
    go_wp2_with (fail)
    refine HSH.out.mono ?_
    rintro e w1 ⟨rfl, hB⟩
    have HB := Aside0.mk hB
    clear hB
    go_wp2_with (fail)
    refine (Tp.awake_calls _).mono ?_
    rintro e w2 ⟨rfl, hB2⟩
    have HB2 := Aside0.mk (below_step HB.out hB2)
    clear hB2
    go_wp2_with (fail)
    go_ret
    exact ⟨rfl, HB2.out⟩
  | true =>
    have HSM := Aside0.mk (HRS.out rfl)
    clear HRS
    by_cases c0 : (l2.length : Int) > 100
    · have d0 : decide ((l2.length : Int) > 100) = true := decide_eq_true c0
      have d1 : decide ((100 : Int) < (l2.length : Int)) = true := decide_eq_true c0
      have d2 : 100 < l2.length := by omega
      clear c0
      go_enter Try.func7, Try.ntmps7
      go_wp2_with (fail)
      refine HSH.out.mono ?_
      rintro e w1 ⟨rfl, hB⟩
      have HB := Aside0.mk hB
      clear hB
      go_wp2_with (fail)
      refine (Tp.awake_calls _).mono ?_
      rintro e w2 ⟨rfl, hB2⟩
      have HB2 := Aside0.mk (below_step HB.out hB2)
      clear hB2
      go_wp2_with (fail)
      go_ret
      exact ⟨rfl, HB2.out⟩
    have d0 : decide ((l2.length : Int) > 100) = false := decide_eq_false c0
    have d1 : decide ((100 : Int) < (l2.length : Int)) = false := decide_eq_false c0
    have d2 : ¬ 100 < l2.length := by omega
    have HKL := Aside0.mk (show l2.length ≤ 100 by omega)
    clear c0
    go_enter Try.func7, Try.ntmps7
    go_wp2_with (fail)
    refine HSH.out.mono ?_
    rintro e w1 ⟨rfl, hB⟩
    have HB := Aside0.mk hB
    clear hB HSH
    go_wp2_with (fail)
    clear d0 d1 d2
    refine (begun_calls _).mono ?_
    rintro e w2 ⟨b, t, rfl, hb, ht, hD, hT, hB2⟩
    have HBT := Aside0.mk (show W.heap.size ≤ b ∧ W.heap.size ≤ t from ⟨Nat.le_trans HB.out.size hb, Nat.le_trans HB.out.size ht⟩)
    have HB2 := Aside0.mk (below_step HB.out hB2)
    obtain ⟨G, hG⟩ : ∃ G : Nat → Prop, (fun k => k = b ∨ k = t) = G := ⟨_, rfl⟩
    rw [hG] at hD hT
    have HGW := Aside0.mk (show ∀ k, G k → W.heap.size ≤ k by rw [← hG]; have := HBT.out; intro k hk; omega)
    have HD := Aside0.mk hD
    have HT := Aside0.mk hT
    have HNE := Aside0.mk (hT.ne hD)
    have HKP := Aside0.mk begun_kp
    have HOK := Aside0.mk (show Okk bs0 by have := openT_okk (newP_okk 2097152 (by decide)); rw [begun_eq] at this; exact this)
    have HBS := Aside0.mk bs0_bsd
    clear hb ht hD hT hB2 HB hG
    have HZ0 := Aside0.mk (show bx = ⟨⟨1, [], []⟩, 0, 0⟩ from rfl)
    generalize bx = z0 at *
    generalize bs0 = s0 at *
    obtain ⟨nn, hnn, hn1, hn2⟩ : ∃ nn : Int, wrap64 (1 + wrap64 ((IntKind.u64.wrap a1).tmod 4000)) = nn ∧ 1 ≤ nn ∧ nn ≤ 4000 := by
      refine ⟨_, rfl, ?_, ?_⟩
      · rw [u64w, Int.tmod_eq_emod_of_nonneg (by omega)]; unfold wrap64; omega
      · rw [u64w, Int.tmod_eq_emod_of_nonneg (by omega)]; unfold wrap64; omega
    have HNN := Aside0.mk (And.intro hn1 hn2)
    have HAR := Aside0.mk (show armP s0 nn l2 = ({ s0 with set := true, left := nn, keep := l2 }, 0) by
      unfold armP
      have h0 : ableP s0 0 = 0 := Dk.able_on (j := 0) (by decide) (by rw [HKP.out.room]; decide) HKP.out.on
      rw [if_neg (fun e => e h0), if_neg (by omega)])
    have HKP1 := Aside0.mk (show Kp z0 { s0 with set := true, left := nn, keep := l2 } 0 from HKP.out.same HKP.out.on rfl rfl)
    have HOK1 := Aside0.mk (show Okk { s0 with set := true, left := nn, keep := l2 } by have := HOK.out.arm nn l2 (by omega) HK2.out (by have := HKL.out; omega); rw [HAR.out] at this; exact this)
    have HBS1 := Aside0.mk (show BsD { s0 with set := true, left := nn, keep := l2 } by have := HBS.out.arm nn l2; rw [HAR.out] at this; exact this)
    clear hn1 hn2 HKP HBS
    generalize ({ s0 with set := true, left := nn, keep := l2 } : DS) = s1 at *
    go_wp2_with (fail)
    rw [hnn]
    refine (Arm_calls G b s0 nn _ l2 _ HD.out HOK.out ((Rw.came (G := fun b_ => b_ = b) HC2.out.2 HC2.out.1 (fun k_ e => e ▸ HBT.out.1)).below HB2.out) (by have := HKL.out; omega)).mono ?_
    rw [HAR.out]
    rintro e w3 ⟨rfl, hD3, hW3⟩
    have HD3 := Aside0.mk hD3
    have HT3 := Aside0.mk (HT.out.wr hW3 HD.out.gg (fun e => HNE.out e.symm))
    have HB3 := Aside0.mk (hW3.below HB2.out HBT.out.1)
    clear hD3 hW3 HAR HOK HD HT HB2 hnn
    go_upto_block 0 with (fail)
    obtain ⟨G1, SB1, SR1, hkw⟩ := KW.start HD3.out HT3.out HB3.out HGW.out
    have HKW := Aside0.mk hkw
    have HBM := Aside0.mk (show b < w3.heap.size ∧ t < w3.heap.size from hkw.bt)
    have HLA := Aside0.mk (show Last [⟨#[]⟩] [[]] z0.r.base z0.r.l by rw [HZ0.out]; exact ⟨0, rfl, rfl, rfl, rfl⟩)
    have HZK := Aside0.mk (show z0.kept = 0 by rw [HZ0.out])
    have HBL := Aside0.mk (show ([⟨#[]⟩] : List ByteArray).length ≤ 0 + 1 from Nat.le_refl _)
    have HLM := Aside0.mk (Kd.C_max HC0.out.2)
    clear hkw HD3 HT3 HB3 HZ0
    obtain ⟨M, hM⟩ : ∃ M, w3.heap.size = M := ⟨_, rfl⟩
    rw [hM] at HKW HBM ⊢
    generalize (w3.alloc (Obj.cells #[Value.string ⟨#[]⟩] 9)).alloc (Obj.cells #[Value.slice none 0 0] 81) = w4 at *
    generalize ([⟨#[]⟩] : List ByteArray) = BS0 at *
    generalize ([[]] : List (List ByteArray)) = RS0 at *
    go_cut [10, 11, 12, 13] (fun v10 v11 v12 v13 wx => ∃ (G SB SR : Nat → Prop) (z : TS) (s : DS) (BS : List ByteArray) (RS : List (List ByteArray)) (Ab Ar : Option Addr) (nb nr cb cr kept : Nat) (down : Bool), v10 = .slice Ab nb cb ∧ v11 = .slice Ar nr cr ∧ v12 = .int .i64 (kept : Int) ∧ v13 = .bool down ∧ Aside0 (KW G SB SR b t M W wx z s (.slice Ab nb cb) (.slice Ar nr cr) BS RS) ∧ Aside0 (Okk s) ∧ Aside0 (BsD s) ∧ Aside0 (s.room = 2097152) ∧ Aside0 (BS.length ≤ 100) ∧ Aside0 (down = false → Kp z s 61 ∧ kept = z.kept ∧ Last BS RS z.r.base z.r.l) ∧ Aside0 (down = true → Fell s kept BS RS))
    case first =>
      go_wp2_with (fail)
      go_loopg [10, 11, 12, 13, 57] l0.length (fun fu v10 v11 v12 v13 v57 wr => ∃ (j : Nat) (G SB SR : Nat → Prop) (z : TS) (s : DS) (BS : List ByteArray) (RS : List (List ByteArray)) (Ab Ar : Option Addr) (nb nr cb cr : Nat), j + fu = l0.length ∧ v57 = .int .i64 (j : Int) ∧ v10 = .slice Ab nb cb ∧ v11 = .slice Ar nr cr ∧ v12 = .int .i64 (z.kept : Int) ∧ v13 = .bool false ∧ Aside0 (KW G SB SR b t M W wr z s (.slice Ab nb cb) (.slice Ar nr cr) BS RS) ∧ Aside0 (Okk s) ∧ Aside0 (BsD s) ∧ Aside0 (Kp z s j) ∧ Aside0 (Last BS RS z.r.base z.r.l) ∧ Aside0 (BS.length ≤ j + 1))
      case atStart => exact ⟨0, G1, SB1, SR1, z0, s1, BS0, RS0, _, _, _, _, _, _, by omega, rfl, rfl, rfl, by rw [HZK.out]; rfl, rfl, HKW, HOK1, HBS1, HKP1, HLA, HBL⟩
      case round =>
        clear HKW HOK1 HBS1 HKP1 HLA HBL HZK HNN
        obtain ⟨j, G, SB, SR, z, s, BS, RS, Ab, Ar, nb, nr, cb, cr, hj, rfl, rfl, rfl, rfl, rfl, HKW, HOK, HBS, HKP, HLA, HBL⟩ := hrel
        have HJF := Aside0.mk hj
        by_cases hlt : j < l0.length
        · obtain ⟨ad, A, ca, A3, c3, B, cB, e1, h0, h1, h2, h3, h4, lA, gA, l3, g3, lB, gB⟩ := at_T79 HC0.out.2 (j : Int) (by omega) (by omega)
          cases e1
          rw [Int.toNat_natCast] at h0 h1 h2 h3 h4
          have HJL := Aside0.mk hlt
          have hg := HG0.out _ (rdT_mem hlt)
          have hsm := HSM.out.2 _ (rdT_mem hlt)
          generalize rd_T79 l0 (j : Int) = el at *
          obtain ⟨op, n, bs, ls, ks⟩ := el
          simp only at h0 h1 h2 h3 h4 lA gA l3 g3 lB gB
          have HSB := Aside0.mk (show Bs bs from bs_wf hg.2.2.1)
          have HSL := Aside0.mk (show ∀ d ∈ ls, Bs d from fun d hd => bs_wf (hg.2.2.2.1 d hd))
          have HBLN := Aside0.mk (show bs.length ≤ 16384 from hsm.b)
          have HLL := Aside0.mk (show 4 * ls.length ≤ 16384 ∧ (∀ d ∈ ls, d.length ≤ 16384) ∧ sz ls ≤ 16384 from ⟨hsm.many, hsm.l, hsm.sum⟩)
          have HCB := Aside0.mk (And.intro lA gA)
          have HCL := Aside0.mk (And.intro l3 g3)
          have HW := Aside0.mk HKW.out.w
          replace h0 := (HW.out.cell (World.block_lt_of_cell? W _ h0)).trans h0
          replace h1 := (HW.out.cell (World.block_lt_of_cell? W _ h1)).trans h1
          replace h2 := (HW.out.cell (World.block_lt_of_cell? W _ h2)).trans h2
          replace h3 := (HW.out.cell (World.block_lt_of_cell? W _ h3)).trans h3
          replace h4 := (HW.out.cell (World.block_lt_of_cell? W _ h4)).trans h4
          clear gA lA g3 l3 gB lB hg hsm
          obtain ⟨k, hk⟩ : ∃ k, wr.heap.size = k := ⟨_, rfl⟩
          have hkb : (wr.alloc (.cells #[.int .i64 op, .int .i64 n, .slice A bs.length ca, .slice A3 ls.length c3, .slice B ks.length cB] 79)).heap[k]? = some (.cells #[.int .i64 op, .int .i64 n, .slice A bs.length ca, .slice A3 ls.length c3, .slice B ks.length cB] 79 (0, 0)) := by rw [← hk]; exact blk_new _ _
          have HKB := Aside0.mk hkb
          have hwb := below_alloc (Below.refl wr.heap.size wr) (.cells #[.int .i64 op, .int .i64 n, .slice A bs.length ca, .slice A3 ls.length c3, .slice B ks.length cB] 79)
          have HKN := Aside0.mk (show t < k ∧ b < k ∧ ∀ q, SB q ∨ SR q → q < k from ⟨by have := HKW.out.tt.lt; omega, by have := HKW.out.dd.ltg; omega, fun q hq => by have := HKW.out.lts q hq; omega⟩)
          have HK1 := Aside0.mk (HKW.out.below hwb)
          have HW1 := Aside0.mk (below_step HW.out hwb)
          have HLE := Aside0.mk (show ∀ g, TG t b g → W.heap.size ≤ g from fun g hg => hg.elim (fun e => e ▸ HBT.out.2) (fun e => e ▸ HBT.out.1))
          have hd0 := (blk_cell hkb 0).trans (show _ = some (Value.int .i64 op) from rfl)
          have HJS := Aside0.mk (show j < 60 by have := HSM.out.1; omega)
          obtain ⟨i, hi1, hi2, hi3, hi4⟩ := HLA.out
          have HIS := Aside0.mk (show i ≤ 60 by have := HBL.out; have := HJS.out; omega)
          have HNR := Aside0.mk (show nr = i + 1 by rw [(Kd.R_reads' HKW.out.rs).1]; exact hi2)
          have HNB := Aside0.mk (show nb = i + 1 by rw [(Kd.R_reads' HKW.out.bs).1]; exact hi1)
          have HLS := Aside0.mk (And.intro hi3 hi4)
          have HWI := Aside0.mk (show wrap64 ((nr : Int) - 1) = (i : Int) by have := HNR.out; have := HIS.out; unfold wrap64; omega)
          have HWJ := Aside0.mk (show wrap64 ((j : Int) + 1) = ((j + 1 : Nat) : Int) by have := HJS.out; unfold wrap64; omega)
          clear hi1 hi2 hi3 hi4 hkb hwb HKW HW hj HLA
          have e1 : decide ((j : Int) < (l0.length : Int)) = true := decide_eq_true (by omega)
          have hj0 : (0 : Int) ≤ (j : Int) := by omega
          have hj1 : (j : Int) < (l0.length : Int) := by omega
          obtain ⟨gko, hgko⟩ : ∃ g, g = gk := ⟨_, rfl⟩
          subst hgko
          go_upto_block 2 with (fail)
          rw [HWI.out]
          obtain ⟨O, hO⟩ : ∃ O : Int, Go.bits .and .i64 op 7 = O := ⟨_, rfl⟩
          rw [hO]
          have HO := Aside0.mk hO
          clear hO hd0 h0 h1 h2 h3 h4 hlt e1 hj0 hj1
          go_cut [10, 11, 12, 17] (fun v10 v11 v12 v17 wx => ∃ (G SB SR : Nat → Prop) (z' : TS) (s' : DS) (BS : List ByteArray) (RS : List (List ByteArray)) (Ab Ar : Option Addr) (nb nr cb cr kept : Nat) (er : Int), v10 = .slice Ab nb cb ∧ v11 = .slice Ar nr cr ∧ v12 = .int .i64 (kept : Int) ∧ v17 = .int .i64 er ∧ Aside0 (KW G SB SR b t M W wx z' s' (.slice Ab nb cb) (.slice Ar nr cr) BS RS) ∧ Aside0 (Okk s') ∧ Aside0 (BsD s') ∧ Aside0 (s'.room = 2097152) ∧ Aside0 (wx.heap[k]? = some (.cells #[.int .i64 op, .int .i64 n, .slice A bs.length ca, .slice A3 ls.length c3, .slice B ks.length cB] 79 (0, 0))) ∧ Aside0 (BS.length ≤ j + 2) ∧ Aside0 (er ≠ 50 → Kp z' s' (j + 1) ∧ Last BS RS z'.r.base z'.r.l ∧ kept = z'.kept) ∧ Aside0 (er = 50 → O ≠ 5 → Fell s' kept BS RS) ∧ Aside0 (er = 50 → O = 5 → Struck z s' bs ls kept BS RS))
          case first =>
            by_cases c4 : O = 4
            · as_aux_lemma =>
              have d1 : (O == (4 : Int)) = true := by simpa using c4
              have d2 : decide (O = (4 : Int)) = true := decide_eq_true c4
              have HO5 := Aside0.mk (show O ≠ 5 by omega)
              clear c4
              obtain ⟨⟨z2, s2, er⟩, hpu⟩ : ∃ q, syncT z s = q := ⟨_, rfl⟩
              have HPU := Aside0.mk hpu
              have HOK2 := Aside0.mk (show Okk s2 by have := syncT_okk HOK.out z; rw [hpu] at this; exact this)
              have HBS2 := Aside0.mk (show BsD s2 by have := syncT_bsd HBS.out z; rw [hpu] at this; exact this)
              have HRM2 := Aside0.mk (show s2.room = 2097152 by have := syncT_room z s; rw [hpu] at this; rw [this]; exact HKP.out.room)
              have HSY := Aside0.mk (HKP.out.sync (by have := HJS.out; omega) HOK.out.1)
              rw [hpu] at HSY
              clear hpu
              go_wp2_with (fail)
              refine (TSync_calls G t b z s _ HK1.out.tt HK1.out.dd HOK.out).mono ?_
              rw [HPU.out]
              rintro e w6 ⟨rfl, hT, hD, hW⟩
              have HK2 := Aside0.mk (HK1.out.act hT hD hW)
              have HKB2 := Aside0.mk ((hW.block k (blk_lt HKB.out) (fun e => by have := HKN.out; rcases e with e | e <;> omega)).trans HKB.out)
              clear hT hD hW
              by_cases c0 : er = 0
              · subst c0
                obtain ⟨g, A', c', e1, hg1, hg2, hg3, hg4, hg5, _, hg6, _⟩ := KdS_at HK2.out.rs i _ HLS.out.2
                subst e1
                rw [List.length_map] at hg4
                have HKP2 := Aside0.mk (show Kp z2 s2 (j + 1) ∧ z2.r = z.r ∧ z2.kept = z.r.l.length by
                  rcases HSY.out with ⟨_, q⟩ | ⟨q, _⟩
                  · exact q
                  · exact absurd q (by decide))
                have hi0 : (0 : Int) ≤ (i : Int) := by omega
                have hi1 : (i : Int) < (nr : Int) := by have := HNR.out; omega
                clear hg1 hg2 hg3 hg6
                go_wp2_with (fail)
                go_meet
                exact ⟨G, SB, SR, z2, s2, BS, RS, _, _, _, _, _, _, z.r.l.length, 0, rfl, rfl, rfl, rfl, HK2, HOK2, HBS2, HRM2, HKB2, ⟨by have := HBL.out; omega⟩, ⟨fun _ => ⟨HKP2.out.1, by rw [HKP2.out.2.1]; exact ⟨i, (by have := (Kd.R_reads' HK2.out.bs).1; have := HNB.out; omega), (by have := (Kd.R_reads' HK2.out.rs).1; have := HNR.out; omega), HLS.out.1, HLS.out.2⟩, HKP2.out.2.2.symm⟩⟩, ⟨fun e => absurd e (by decide)⟩, ⟨fun e => absurd e (by decide)⟩⟩
              · have d3 : (er == (0 : Int)) = false := by simpa using c0
                have d4 : decide (er = (0 : Int)) = false := decide_eq_false c0
                have HER := Aside0.mk (show er = 50 ∧ Fell s2 z.kept BS RS by
                  rcases HSY.out with ⟨q, _⟩ | ⟨q, q2⟩
                  · exact absurd q c0
                  · exact ⟨q, _, _, _, _, _, ⟨i, (by have := (Kd.R_reads' HK2.out.bs).1; have := HNB.out; omega), (by have := (Kd.R_reads' HK2.out.rs).1; have := HNR.out; omega), HLS.out.1, HLS.out.2⟩, q2, HKP.out.kept⟩)
                clear c0
                go_wp2_with (fail)
                go_meet
                exact ⟨G, SB, SR, z2, s2, BS, RS, _, _, _, _, _, _, z.kept, er, rfl, rfl, rfl, rfl, HK2, HOK2, HBS2, HRM2, HKB2, ⟨by have := HBL.out; omega⟩, ⟨fun e => absurd HER.out.1 e⟩, ⟨fun _ _ => HER.out.2⟩, ⟨fun _ e => absurd e HO5.out⟩⟩
            have d1 : (O == (4 : Int)) = false := by simpa using c4
            have d2 : decide (O = (4 : Int)) = false := decide_eq_false c4
            clear c4
            by_cases c5 : O = 5
            · as_aux_lemma =>
              have d3 : (O == (5 : Int)) = true := by simpa using c5
              have d4 : decide (O = (5 : Int)) = true := decide_eq_true c5
              have HO5 := Aside0.mk c5
              clear c5
              obtain ⟨⟨z2, s2, er⟩, hpu⟩ : ∃ q, saveP z s bs ls = q := ⟨_, rfl⟩
              have HPU := Aside0.mk hpu
              have HOK2 := Aside0.mk (show Okk s2 by have := saveP_okk HOK.out z bs ls; rw [hpu] at this; exact this)
              have HBS2 := Aside0.mk (show BsD s2 by have := saveP_bsd HBS.out z HSB.out HSL.out (by have := HKP.out.hg; omega) (by have := HLL.out.1; omega); rw [hpu] at this; exact this)
              have HRM2 := Aside0.mk (show s2.room = 2097152 by have := saveP_room z s bs ls; rw [hpu] at this; rw [this]; exact HKP.out.room)
              have HSV := Aside0.mk (HKP.out.saves (by have := HJS.out; omega) HOK.out HSB.out HSL.out HLL.out.2.2)
              rw [hpu] at HSV
              have HSO := Aside0.mk (show SaveOk z bs ls from ⟨by have := HKP.out.hg; have := HJS.out; omega, HKP.out.file, HSB.out, HSL.out, by have := HBLN.out; omega, by have := HLL.out.1; omega, flat_small HLL.out.1 HLL.out.2.1⟩)
              clear hpu
              go_wp2_with (fail)
              refine (SaveT_calls G t b z s _ _ bs ls _ HK1.out.tt HK1.out.dd HOK.out ((Rw.came (G := TG t b) HCB.out.2 HCB.out.1 HLE.out).below HW1.out) ((Rs.came (G := TG t b) HCL.out.2 HCL.out.1 HLE.out).below HW1.out) HSO.out).mono ?_
              rw [HPU.out]
              rintro e w6 ⟨rfl, hT, hD, hW⟩
              have HK2 := Aside0.mk (HK1.out.act hT hD hW)
              have HKB2 := Aside0.mk ((hW.block k (blk_lt HKB.out) (fun e => by have := HKN.out; rcases e with e | e <;> omega)).trans HKB.out)
              clear hT hD hW
              by_cases c0 : er = 0
              · as_aux_lemma =>
                subst c0
                have HKD := Aside0.mk (blk_drew HKB2.out)
                have HSV2 := Aside0.mk (show Kp z2 s2 (j + 1) ∧ z2.r = ⟨z.r.gen + 1, bs, ls⟩ ∧ z2.kept = ls.length by
                  rcases HSV.out with ⟨_, q⟩ | ⟨q, _⟩ | ⟨q, _⟩
                  · exact q
                  · exact absurd q (by decide)
                  · exact absurd rfl q)
                go_wp2_with (fail)
                refine start_ (n := 14) (S := fun w' => w'.heap[k]? = some (.cells #[.int .i64 op, .int .i64 n, .slice A bs.length ca, .slice A3 ls.length c3, .slice B ks.length cB] 79 (0, 0)) ∧ Below W.heap.size W w') (ds := []) #[false, false, false, false, false, false, false, false, false, false, false, false, false, false] (by kernel_rfl) rfl rfl ⟨HKD.out, below_drew1 HK2.out.w⟩ (fun hHeld => ?_)
                refine pure_ (i := 0) (N := some 115) (v := ?_) (a' := ?_) #[true, false, false, false, false, false, false, false, false, false, false, false, false, false] rfl rfl (by kernel_rfl) (fun _ _ _ h => h) (Or.inl ⟨by rfl, ?_⟩) ?_ ?_
                rotate_left
                · intro w'
                  go_simp
                  with_reducible rfl
                rotate_left
                · simp only [Act.put, List.setIfInBounds_toArray, List.set_cons_zero, List.set_cons_succ, i64_w, i32_w]
                  rfl
                refine pure_ (i := 1) (N := some 116) (v := ?_) (a' := ?_) #[true, true, false, false, false, false, false, false, false, false, false, false, false, false] rfl rfl (by kernel_rfl) (fun _ _ _ h => h) (Or.inl ⟨by rfl, ?_⟩) ?_ ?_
                rotate_left
                · intro w'
                  go_simp
                  with_reducible rfl
                rotate_left
                · simp only [Act.put, List.setIfInBounds_toArray, List.set_cons_zero, List.set_cons_succ, i64_w, i32_w]
                  rfl
                refine pure_ (i := 6) (N := some 121) (v := ?_) (a' := ?_) #[true, true, false, false, false, false, true, false, false, false, false, false, false, false] rfl rfl (by kernel_rfl) (fun _ _ _ h => h) (Or.inl ⟨by rfl, ?_⟩) ?_ ?_
                rotate_left
                · intro w'
                  go_simp
                  with_reducible rfl
                rotate_left
                · simp only [Act.put, List.setIfInBounds_toArray, List.set_cons_zero, List.set_cons_succ, i64_w, i32_w]
                  rfl
                refine pure_ (i := 7) (N := some 122) (v := ?_) (a' := ?_) #[true, true, false, false, false, false, true, true, false, false, false, false, false, false] rfl rfl (by kernel_rfl) (fun _ _ _ h => h) (Or.inl ⟨by rfl, ?_⟩) ?_ ?_
                rotate_left
                · intro w'
                  go_simp
                  with_reducible rfl
                rotate_left
                · simp only [Act.put, List.setIfInBounds_toArray, List.set_cons_zero, List.set_cons_succ, i64_w, i32_w]
                  rfl
                refine take_ (i := 2) (N := some 117) (v := ?_) (a' := ?_) #[true, true, true, false, false, false, true, true, false, false, false, false, false, false] rfl rfl (by kernel_rfl) (fun _ _ _ h => h) (Or.inl ⟨by rfl, ?_⟩) hHeld ?_ ?_
                rotate_left
                · rintro w' ⟨s0, s1⟩
                  have d2_ := (blk_cell s0 2).trans (show _ = some (Value.slice A bs.length ca) from rfl)
                  go_simp
                  with_reducible rfl
                rotate_left
                · simp only [Act.put, List.setIfInBounds_toArray, List.set_cons_zero, List.set_cons_succ, i64_w, i32_w]
                  rfl
                refine take_ (i := 3) (N := some 118) (v := ?_) (a' := ?_) #[true, true, true, true, false, false, true, true, false, false, false, false, false, false] rfl rfl (by kernel_rfl) (fun _ _ _ h => h) (Or.inl ⟨by rfl, ?_⟩) hHeld ?_ ?_
                rotate_left
                · rintro w' ⟨s0, s1⟩
                  have hk_ := Kd.C_string (P := Try.prog) (A := A) (c := ca) Try.underlying32 Try.underlying5 Try.underlying9 (Kd.C_below HCB.out.2 s1)
                  go_simp
                  with_reducible rfl
                rotate_left
                · simp only [Act.put, List.setIfInBounds_toArray, List.set_cons_zero, List.set_cons_succ, i64_w, i32_w]
                  rfl
                refine take_ (i := 8) (N := some 123) (v := ?_) (a' := ?_) #[true, true, true, true, false, false, true, true, true, false, false, false, false, false] rfl rfl (by kernel_rfl) (fun _ _ _ h => h) (Or.inl ⟨by rfl, ?_⟩) hHeld ?_ ?_
                rotate_left
                · rintro w' ⟨s0, s1⟩
                  have d2_ := (blk_cell s0 3).trans (show _ = some (Value.slice A3 ls.length c3) from rfl)
                  go_simp
                  with_reducible rfl
                rotate_left
                · simp only [Act.put, List.setIfInBounds_toArray, List.set_cons_zero, List.set_cons_succ, i64_w, i32_w]
                  rfl
                refine one_ (i := 4) (N := some 119) #[true, true, true, true, true, false, true, true, true, false, false, false, false, false] rfl rfl (by kernel_rfl) (by decide) (fun K hK => ?_)
                refine value_ (w1 := ?_) (v := ?_) (by rfl) rfl ?_ ?_
                rotate_left 2
                · go_simp
                  constructor
                  · rfl
                  · rfl
                refine hK.out _ _ ⟨blk_alloc hHeld.1 _, below_alloc hHeld.2 _⟩ (fun hHeld => ?_)
                clear hK K
                refine norm_ (a' := ?_) ?_ ?_
                rotate_left
                · show Act.put _ (some 119) _ = _
                  simp only [Act.put, List.setIfInBounds_toArray, List.set_cons_zero, List.set_cons_succ, i64_w, i32_w]
                  rfl
                refine one_ (i := 5) (N := some 120) #[true, true, true, true, true, true, true, true, true, false, false, false, false, false] rfl rfl (by kernel_rfl) (by decide) (fun K hK => ?_)
                refine Kd.R_append_step Kd.string (w0 := w6.drew) (W := w6.drew) M (by rfl) (.tmp 115) (.tmp 119) 81 9 (.string ⟨#[]⟩) 16 (by rfl) Try.underlying81 info9 rfl (by decide) (by omega) (.slice Ab nb cb) BS (strOfNums bs) [.string (strOfNums bs)] (fun k_ => SB k_ ∨ w6.heap.size ≤ k_) (fun _ => False) (by rfl) (by rfl) ?aM ?aK ?aF ?aR ?aB ?aS ?aL ?_
                case aM => exact rfl
                case aK => exact fun _ h => h.elim
                case aF => exact fun k_ h => .inr h
                case aR => exact Kd.R_mono (Kd.R_below HK2.out.bs (below_drew1 (Below.refl _ _))) (fun _ h => .inl h)
                case aB => exact Below.refl _ _
                case aS => exact HK2.out.ml
                case aL => have := HBL.out; have := HJS.out; omega
                intro v7 w7 h7 hb7 hg7 _
                obtain ⟨BS2, hB2⟩ : ∃ q, BS ++ [strOfNums bs] = q := ⟨_, rfl⟩
                rw [hB2] at h7
                have HBE := Aside0.mk hB2
                clear hB2
                obtain ⟨Ab2, cb2, e7⟩ := Kd.R_slice h7
                subst e7
                have HK7 := Aside0.mk (KW.appB HK2.out (below_drew1 (Below.refl w6.heap.size w6)) hg7 h7)
                refine hK.out _ _ ⟨(hg7.block k (blk_lt HKD.out) (fun e => by have := HKN.out.2.2 k (.inl (HK2.out.bs.1 k e.symm)); omega)).trans HKD.out, HK7.out.w⟩ (fun hHeld => ?_)
                clear hK K
                refine norm_ (a' := ?_) ?_ ?_
                rotate_left
                · show Act.put _ (some 120) _ = _
                  simp only [Act.put, List.setIfInBounds_toArray, List.set_cons_zero, List.set_cons_succ, i64_w, i32_w]
                  rfl
                refine one_ (i := 9) (N := some 124) #[true, true, true, true, true, true, true, true, true, true, false, false, false, false] rfl rfl (by kernel_rfl) (by decide) (fun K hK => ?_)
                refine goes_ Try.func43 (by kernel_rfl) rfl #[.slice A3 ls.length c3] (by rfl) rfl rfl (by first | rfl | (simp; done) | (simp only [List.map_toArray, List.map_cons, List.map_nil]; rfl)) ?_
                with_reducible refine (texts_calls A3 c3 ls _ (Kd.C_below HCL.out.2 hHeld.2) HCL.out.1 (by have := HLL.out.1; omega)).mono ?_
                rintro e w8 ⟨v, rfl, hR, hb⟩
                refine ⟨_, rfl, ?_⟩
                obtain ⟨A8, c8, e8⟩ := Kd.R_slice hR
                subst e8
                rw [List.length_map] at hR ⊢
                have HTX := Aside0.mk hR
                have HB8 := Aside0.mk hb
                have HK8 := Aside0.mk (HK7.out.below hb)
                have HKB8 := Aside0.mk (blk_below hHeld.1 hb)
                clear hR
                refine hK.out _ _ ⟨HKB8.out, HK8.out.w⟩ (fun hHeld => ?_)
                clear hK K
                refine norm_ (a' := ?_) ?_ ?_
                rotate_left
                · show Act.put _ (some 124) _ = _
                  simp only [Act.put, List.setIfInBounds_toArray, List.set_cons_zero, List.set_cons_succ, i64_w, i32_w]
                  rfl
                refine one_ (i := 10) (N := some 125) #[true, true, true, true, true, true, true, true, true, true, true, false, false, false] rfl rfl (by kernel_rfl) (by decide) (fun K hK => ?_)
                refine value_ (w1 := ?_) (v := ?_) (by rfl) rfl ?_ ?_
                rotate_left 2
                · go_simp
                  constructor
                  · rfl
                  · rfl
                refine hK.out _ _ ⟨blk_alloc hHeld.1 _, below_alloc hHeld.2 _⟩ (fun hHeld => ?_)
                clear hK K
                refine norm_ (a' := ?_) ?_ ?_
                rotate_left
                · show Act.put _ (some 125) _ = _
                  simp only [Act.put, List.setIfInBounds_toArray, List.set_cons_zero, List.set_cons_succ, i64_w, i32_w]
                  rfl
                refine one_ (i := 11) (N := some 126) #[true, true, true, true, true, true, true, true, true, true, true, true, false, false] rfl rfl (by kernel_rfl) (by decide) (fun K hK => ?_)
                refine Kd.R_append_step KdS (w0 := w8) (W := w8) M (by rfl) (.tmp 121) (.tmp 125) 88 81 (.slice none 0 0) 24 (by rfl) Try.underlying88 (by kernel_rfl) rfl (by decide) (by omega) (.slice Ar nr cr) RS (ls.map strOfNums) [.slice A8 ls.length c8] (fun k_ => SR k_ ∨ w7.heap.size ≤ k_) (fun k_ => w7.heap.size ≤ k_) (by rfl) (by rfl) ?aM ?aK ?aF ?aR ?aB ?aS ?aL ?_
                case aM => exact ⟨_, rfl, Kd.R_lower (Kd.R_mono (Kd.R_bound HTX.out) (fun k_ h => h.2.1)) HK7.out.ml⟩
                case aK => exact fun k_ h => ⟨.inr h, fun e => by have := HK7.out.lts k_ (.inr (HK7.out.rs.1 k_ e.symm)); omega⟩
                case aF => exact fun k_ h => .inr (Nat.le_trans HB8.out.size h)
                case aR => exact Kd.R_mono (Kd.R_below HK7.out.rs HB8.out) (fun _ h => .inl h)
                case aB => exact Below.refl _ _
                case aS => exact HK8.out.ml
                case aL => have := HNR.out; have := HIS.out; have := (Kd.R_reads' HK2.out.rs).1; omega
                intro v9 w9 h9 hb9 hg9 _
                obtain ⟨RS2, hR2⟩ : ∃ q, RS ++ [ls.map strOfNums] = q := ⟨_, rfl⟩
                rw [hR2] at h9
                have HRE := Aside0.mk hR2
                clear hR2
                obtain ⟨Ar2, cr2, e9⟩ := Kd.R_slice h9
                subst e9
                have HK9 := Aside0.mk (KW.appR HK7.out HB8.out hg9 h9)
                have HKB9 := Aside0.mk ((hg9.block k (blk_lt HKB8.out) (fun e => by have := HKN.out.2.2 k (.inr (HK2.out.rs.1 k e.symm)); omega)).trans HKB8.out)
                refine hK.out _ _ ⟨HKB9.out, HK9.out.w⟩ (fun hHeld => ?_)
                clear hK K
                refine norm_ (a' := ?_) ?_ ?_
                rotate_left
                · show Act.put _ (some 126) _ = _
                  simp only [Act.put, List.setIfInBounds_toArray, List.set_cons_zero, List.set_cons_succ, i64_w, i32_w]
                  rfl
                refine pure_ (i := 12) (N := some 10) (v := ?_) (a' := ?_) #[true, true, true, true, true, true, true, true, true, true, true, true, true, false] rfl rfl (by kernel_rfl) (fun _ _ _ h => h) (Or.inl ⟨by rfl, ?_⟩) ?_ ?_
                rotate_left
                · intro w'
                  go_simp
                  with_reducible rfl
                rotate_left
                · simp only [Act.put, List.setIfInBounds_toArray, List.set_cons_zero, List.set_cons_succ, i64_w, i32_w]
                  rfl
                refine pure_ (i := 13) (N := some 11) (v := ?_) (a' := ?_) #[true, true, true, true, true, true, true, true, true, true, true, true, true, true] rfl rfl (by kernel_rfl) (fun _ _ _ h => h) (Or.inl ⟨by rfl, ?_⟩) ?_ ?_
                rotate_left
                · intro w'
                  go_simp
                  with_reducible rfl
                rotate_left
                · simp only [Act.put, List.setIfInBounds_toArray, List.set_cons_zero, List.set_cons_succ, i64_w, i32_w]
                  rfl
                refine done_ (by kernel_rfl) ?_
                have hd3 := (blk_cell HKB9.out 3).trans (show _ = some (Value.slice A3 ls.length c3) from rfl)
                go_wp2_with (fail)
                go_meet
                have hbl : BS.length = i + 1 := by have := (Kd.R_reads' HK2.out.bs).1; have := HNB.out; omega
                have hrl : RS.length = i + 1 := by have := (Kd.R_reads' HK2.out.rs).1; have := HNR.out; omega
                exact ⟨_, _, _, z2, s2, BS2, RS2, _, _, _, _, _, _, ls.length, 0, rfl, rfl, rfl, rfl, HK9, HOK2, HBS2, HRM2, HKB9, ⟨by rw [← HBE.out, List.length_append, List.length_singleton]; have := HBL.out; omega⟩, ⟨fun _ => ⟨HSV2.out.1, by rw [HSV2.out.2.1, ← HBE.out, ← HRE.out]; exact ⟨i + 1, by simp [hbl], by simp [hrl], by rw [List.getElem?_append_right (by omega)]; simp [hbl], by rw [List.getElem?_append_right (by omega)]; simp [hrl]⟩, HSV2.out.2.2.symm⟩⟩, ⟨fun e => absurd e (by decide)⟩, ⟨fun e => absurd e (by decide)⟩⟩
              by_cases c1 : er = 50
              · as_aux_lemma =>
                subst c1
                have HKD := Aside0.mk (blk_drew HKB2.out)
                have HSV2 := Aside0.mk (show Aft z.r.gen z.r.base z.r.l z.kept z.file { s2 with off := false } ∨ Aft (z.r.gen + 1) bs ls ls.length (1 - z.file) { s2 with off := false } by
                  rcases HSV.out with ⟨q, _⟩ | ⟨_, q⟩ | ⟨_, q, _⟩
                  · exact absurd q (by decide)
                  · exact q
                  · exact absurd rfl q)
                go_wp2_with (fail)
                refine start_ (n := 14) (S := fun w' => w'.heap[k]? = some (.cells #[.int .i64 op, .int .i64 n, .slice A bs.length ca, .slice A3 ls.length c3, .slice B ks.length cB] 79 (0, 0)) ∧ Below W.heap.size W w') (ds := []) #[false, false, false, false, false, false, false, false, false, false, false, false, false, false] (by kernel_rfl) rfl rfl ⟨HKD.out, below_drew1 HK2.out.w⟩ (fun hHeld => ?_)
                refine pure_ (i := 0) (N := some 115) (v := ?_) (a' := ?_) #[true, false, false, false, false, false, false, false, false, false, false, false, false, false] rfl rfl (by kernel_rfl) (fun _ _ _ h => h) (Or.inl ⟨by rfl, ?_⟩) ?_ ?_
                rotate_left
                · intro w'
                  go_simp
                  with_reducible rfl
                rotate_left
                · simp only [Act.put, List.setIfInBounds_toArray, List.set_cons_zero, List.set_cons_succ, i64_w, i32_w]
                  rfl
                refine pure_ (i := 1) (N := some 116) (v := ?_) (a' := ?_) #[true, true, false, false, false, false, false, false, false, false, false, false, false, false] rfl rfl (by kernel_rfl) (fun _ _ _ h => h) (Or.inl ⟨by rfl, ?_⟩) ?_ ?_
                rotate_left
                · intro w'
                  go_simp
                  with_reducible rfl
                rotate_left
                · simp only [Act.put, List.setIfInBounds_toArray, List.set_cons_zero, List.set_cons_succ, i64_w, i32_w]
                  rfl
                refine pure_ (i := 6) (N := some 121) (v := ?_) (a' := ?_) #[true, true, false, false, false, false, true, false, false, false, false, false, false, false] rfl rfl (by kernel_rfl) (fun _ _ _ h => h) (Or.inl ⟨by rfl, ?_⟩) ?_ ?_
                rotate_left
                · intro w'
                  go_simp
                  with_reducible rfl
                rotate_left
                · simp only [Act.put, List.setIfInBounds_toArray, List.set_cons_zero, List.set_cons_succ, i64_w, i32_w]
                  rfl
                refine pure_ (i := 7) (N := some 122) (v := ?_) (a' := ?_) #[true, true, false, false, false, false, true, true, false, false, false, false, false, false] rfl rfl (by kernel_rfl) (fun _ _ _ h => h) (Or.inl ⟨by rfl, ?_⟩) ?_ ?_
                rotate_left
                · intro w'
                  go_simp
                  with_reducible rfl
                rotate_left
                · simp only [Act.put, List.setIfInBounds_toArray, List.set_cons_zero, List.set_cons_succ, i64_w, i32_w]
                  rfl
                refine take_ (i := 2) (N := some 117) (v := ?_) (a' := ?_) #[true, true, true, false, false, false, true, true, false, false, false, false, false, false] rfl rfl (by kernel_rfl) (fun _ _ _ h => h) (Or.inl ⟨by rfl, ?_⟩) hHeld ?_ ?_
                rotate_left
                · rintro w' ⟨s0, s1⟩
                  have d2_ := (blk_cell s0 2).trans (show _ = some (Value.slice A bs.length ca) from rfl)
                  go_simp
                  with_reducible rfl
                rotate_left
                · simp only [Act.put, List.setIfInBounds_toArray, List.set_cons_zero, List.set_cons_succ, i64_w, i32_w]
                  rfl
                refine take_ (i := 3) (N := some 118) (v := ?_) (a' := ?_) #[true, true, true, true, false, false, true, true, false, false, false, false, false, false] rfl rfl (by kernel_rfl) (fun _ _ _ h => h) (Or.inl ⟨by rfl, ?_⟩) hHeld ?_ ?_
                rotate_left
                · rintro w' ⟨s0, s1⟩
                  have hk_ := Kd.C_string (P := Try.prog) (A := A) (c := ca) Try.underlying32 Try.underlying5 Try.underlying9 (Kd.C_below HCB.out.2 s1)
                  go_simp
                  with_reducible rfl
                rotate_left
                · simp only [Act.put, List.setIfInBounds_toArray, List.set_cons_zero, List.set_cons_succ, i64_w, i32_w]
                  rfl
                refine take_ (i := 8) (N := some 123) (v := ?_) (a' := ?_) #[true, true, true, true, false, false, true, true, true, false, false, false, false, false] rfl rfl (by kernel_rfl) (fun _ _ _ h => h) (Or.inl ⟨by rfl, ?_⟩) hHeld ?_ ?_
                rotate_left
                · rintro w' ⟨s0, s1⟩
                  have d2_ := (blk_cell s0 3).trans (show _ = some (Value.slice A3 ls.length c3) from rfl)
                  go_simp
                  with_reducible rfl
                rotate_left
                · simp only [Act.put, List.setIfInBounds_toArray, List.set_cons_zero, List.set_cons_succ, i64_w, i32_w]
                  rfl
                refine one_ (i := 4) (N := some 119) #[true, true, true, true, true, false, true, true, true, false, false, false, false, false] rfl rfl (by kernel_rfl) (by decide) (fun K hK => ?_)
                refine value_ (w1 := ?_) (v := ?_) (by rfl) rfl ?_ ?_
                rotate_left 2
                · go_simp
                  constructor
                  · rfl
                  · rfl
                refine hK.out _ _ ⟨blk_alloc hHeld.1 _, below_alloc hHeld.2 _⟩ (fun hHeld => ?_)
                clear hK K
                refine norm_ (a' := ?_) ?_ ?_
                rotate_left
                · show Act.put _ (some 119) _ = _
                  simp only [Act.put, List.setIfInBounds_toArray, List.set_cons_zero, List.set_cons_succ, i64_w, i32_w]
                  rfl
                refine one_ (i := 5) (N := some 120) #[true, true, true, true, true, true, true, true, true, false, false, false, false, false] rfl rfl (by kernel_rfl) (by decide) (fun K hK => ?_)
                refine Kd.R_append_step Kd.string (w0 := w6.drew) (W := w6.drew) M (by rfl) (.tmp 115) (.tmp 119) 81 9 (.string ⟨#[]⟩) 16 (by rfl) Try.underlying81 info9 rfl (by decide) (by omega) (.slice Ab nb cb) BS (strOfNums bs) [.string (strOfNums bs)] (fun k_ => SB k_ ∨ w6.heap.size ≤ k_) (fun _ => False) (by rfl) (by rfl) ?aM ?aK ?aF ?aR ?aB ?aS ?aL ?_
                case aM => exact rfl
                case aK => exact fun _ h => h.elim
                case aF => exact fun k_ h => .inr h
                case aR => exact Kd.R_mono (Kd.R_below HK2.out.bs (below_drew1 (Below.refl _ _))) (fun _ h => .inl h)
                case aB => exact Below.refl _ _
                case aS => exact HK2.out.ml
                case aL => have := HBL.out; have := HJS.out; omega
                intro v7 w7 h7 hb7 hg7 _
                obtain ⟨BS2, hB2⟩ : ∃ q, BS ++ [strOfNums bs] = q := ⟨_, rfl⟩
                rw [hB2] at h7
                have HBE := Aside0.mk hB2
                clear hB2
                obtain ⟨Ab2, cb2, e7⟩ := Kd.R_slice h7
                subst e7
                have HK7 := Aside0.mk (KW.appB HK2.out (below_drew1 (Below.refl w6.heap.size w6)) hg7 h7)
                refine hK.out _ _ ⟨(hg7.block k (blk_lt HKD.out) (fun e => by have := HKN.out.2.2 k (.inl (HK2.out.bs.1 k e.symm)); omega)).trans HKD.out, HK7.out.w⟩ (fun hHeld => ?_)
                clear hK K
                refine norm_ (a' := ?_) ?_ ?_
                rotate_left
                · show Act.put _ (some 120) _ = _
                  simp only [Act.put, List.setIfInBounds_toArray, List.set_cons_zero, List.set_cons_succ, i64_w, i32_w]
                  rfl
                refine one_ (i := 9) (N := some 124) #[true, true, true, true, true, true, true, true, true, true, false, false, false, false] rfl rfl (by kernel_rfl) (by decide) (fun K hK => ?_)
                refine goes_ Try.func43 (by kernel_rfl) rfl #[.slice A3 ls.length c3] (by rfl) rfl rfl (by first | rfl | (simp; done) | (simp only [List.map_toArray, List.map_cons, List.map_nil]; rfl)) ?_
                with_reducible refine (texts_calls A3 c3 ls _ (Kd.C_below HCL.out.2 hHeld.2) HCL.out.1 (by have := HLL.out.1; omega)).mono ?_
                rintro e w8 ⟨v, rfl, hR, hb⟩
                refine ⟨_, rfl, ?_⟩
                obtain ⟨A8, c8, e8⟩ := Kd.R_slice hR
                subst e8
                rw [List.length_map] at hR ⊢
                have HTX := Aside0.mk hR
                have HB8 := Aside0.mk hb
                have HK8 := Aside0.mk (HK7.out.below hb)
                have HKB8 := Aside0.mk (blk_below hHeld.1 hb)
                clear hR
                refine hK.out _ _ ⟨HKB8.out, HK8.out.w⟩ (fun hHeld => ?_)
                clear hK K
                refine norm_ (a' := ?_) ?_ ?_
                rotate_left
                · show Act.put _ (some 124) _ = _
                  simp only [Act.put, List.setIfInBounds_toArray, List.set_cons_zero, List.set_cons_succ, i64_w, i32_w]
                  rfl
                refine one_ (i := 10) (N := some 125) #[true, true, true, true, true, true, true, true, true, true, true, false, false, false] rfl rfl (by kernel_rfl) (by decide) (fun K hK => ?_)
                refine value_ (w1 := ?_) (v := ?_) (by rfl) rfl ?_ ?_
                rotate_left 2
                · go_simp
                  constructor
                  · rfl
                  · rfl
                refine hK.out _ _ ⟨blk_alloc hHeld.1 _, below_alloc hHeld.2 _⟩ (fun hHeld => ?_)
                clear hK K
                refine norm_ (a' := ?_) ?_ ?_
                rotate_left
                · show Act.put _ (some 125) _ = _
                  simp only [Act.put, List.setIfInBounds_toArray, List.set_cons_zero, List.set_cons_succ, i64_w, i32_w]
                  rfl
                refine one_ (i := 11) (N := some 126) #[true, true, true, true, true, true, true, true, true, true, true, true, false, false] rfl rfl (by kernel_rfl) (by decide) (fun K hK => ?_)
                refine Kd.R_append_step KdS (w0 := w8) (W := w8) M (by rfl) (.tmp 121) (.tmp 125) 88 81 (.slice none 0 0) 24 (by rfl) Try.underlying88 (by kernel_rfl) rfl (by decide) (by omega) (.slice Ar nr cr) RS (ls.map strOfNums) [.slice A8 ls.length c8] (fun k_ => SR k_ ∨ w7.heap.size ≤ k_) (fun k_ => w7.heap.size ≤ k_) (by rfl) (by rfl) ?aM ?aK ?aF ?aR ?aB ?aS ?aL ?_
                case aM => exact ⟨_, rfl, Kd.R_lower (Kd.R_mono (Kd.R_bound HTX.out) (fun k_ h => h.2.1)) HK7.out.ml⟩
                case aK => exact fun k_ h => ⟨.inr h, fun e => by have := HK7.out.lts k_ (.inr (HK7.out.rs.1 k_ e.symm)); omega⟩
                case aF => exact fun k_ h => .inr (Nat.le_trans HB8.out.size h)
                case aR => exact Kd.R_mono (Kd.R_below HK7.out.rs HB8.out) (fun _ h => .inl h)
                case aB => exact Below.refl _ _
                case aS => exact HK8.out.ml
                case aL => have := HNR.out; have := HIS.out; have := (Kd.R_reads' HK2.out.rs).1; omega
                intro v9 w9 h9 hb9 hg9 _
                obtain ⟨RS2, hR2⟩ : ∃ q, RS ++ [ls.map strOfNums] = q := ⟨_, rfl⟩
                rw [hR2] at h9
                have HRE := Aside0.mk hR2
                clear hR2
                obtain ⟨Ar2, cr2, e9⟩ := Kd.R_slice h9
                subst e9
                have HK9 := Aside0.mk (KW.appR HK7.out HB8.out hg9 h9)
                have HKB9 := Aside0.mk ((hg9.block k (blk_lt HKB8.out) (fun e => by have := HKN.out.2.2 k (.inr (HK2.out.rs.1 k e.symm)); omega)).trans HKB8.out)
                refine hK.out _ _ ⟨HKB9.out, HK9.out.w⟩ (fun hHeld => ?_)
                clear hK K
                refine norm_ (a' := ?_) ?_ ?_
                rotate_left
                · show Act.put _ (some 126) _ = _
                  simp only [Act.put, List.setIfInBounds_toArray, List.set_cons_zero, List.set_cons_succ, i64_w, i32_w]
                  rfl
                refine pure_ (i := 12) (N := some 10) (v := ?_) (a' := ?_) #[true, true, true, true, true, true, true, true, true, true, true, true, true, false] rfl rfl (by kernel_rfl) (fun _ _ _ h => h) (Or.inl ⟨by rfl, ?_⟩) ?_ ?_
                rotate_left
                · intro w'
                  go_simp
                  with_reducible rfl
                rotate_left
                · simp only [Act.put, List.setIfInBounds_toArray, List.set_cons_zero, List.set_cons_succ, i64_w, i32_w]
                  rfl
                refine pure_ (i := 13) (N := some 11) (v := ?_) (a' := ?_) #[true, true, true, true, true, true, true, true, true, true, true, true, true, true] rfl rfl (by kernel_rfl) (fun _ _ _ h => h) (Or.inl ⟨by rfl, ?_⟩) ?_ ?_
                rotate_left
                · intro w'
                  go_simp
                  with_reducible rfl
                rotate_left
                · simp only [Act.put, List.setIfInBounds_toArray, List.set_cons_zero, List.set_cons_succ, i64_w, i32_w]
                  rfl
                refine done_ (by kernel_rfl) ?_
                go_wp2_with (fail)
                go_meet
                have hbl : BS.length = i + 1 := by have := (Kd.R_reads' HK2.out.bs).1; have := HNB.out; omega
                have hrl : RS.length = i + 1 := by have := (Kd.R_reads' HK2.out.rs).1; have := HNR.out; omega
                exact ⟨_, _, _, z2, s2, BS2, RS2, _, _, _, _, _, _, z.kept, 50, rfl, rfl, rfl, rfl, HK9, HOK2, HBS2, HRM2, HKB9, ⟨by rw [← HBE.out, List.length_append, List.length_singleton]; have := HBL.out; omega⟩, ⟨fun e => absurd rfl e⟩, ⟨fun _ e => absurd HO5.out e⟩, ⟨fun _ _ => by rw [← HBE.out, ← HRE.out]; exact ⟨i, by simp [hbl], by simp [hrl], by rw [List.getElem?_append_left (by omega)]; exact HLS.out.1, by rw [List.getElem?_append_left (by omega)]; exact HLS.out.2, by rw [List.getElem?_append_right (by omega)]; simp [hbl], by rw [List.getElem?_append_right (by omega)]; simp [hrl], HSV2.out⟩⟩⟩
              have d5 : (er == (0 : Int)) = false := by simpa using c0
              have d6 : decide (er = (0 : Int)) = false := decide_eq_false c0
              have d7 : (er == (50 : Int)) = false := by simpa using c1
              have d8 : decide (er = (50 : Int)) = false := decide_eq_false c1
              have HSV2 := Aside0.mk (show Kp z s2 (j + 1) ∧ z2 = z by
                rcases HSV.out with ⟨q, _⟩ | ⟨q, _⟩ | ⟨_, _, q⟩
                · exact absurd q c0
                · exact absurd q c1
                · exact q)
              have HE1 := Aside0.mk c1
              clear c0 c1
              go_wp2_with (fail)
              go_meet
              exact ⟨G, SB, SR, z2, s2, BS, RS, _, _, _, _, _, _, z.kept, er, rfl, rfl, rfl, rfl, HK2, HOK2, HBS2, HRM2, HKB2, ⟨by have := HBL.out; omega⟩, ⟨fun _ => by rw [HSV2.out.2]; exact ⟨HSV2.out.1, ⟨i, (by have := (Kd.R_reads' HK2.out.bs).1; have := HNB.out; omega), (by have := (Kd.R_reads' HK2.out.rs).1; have := HNR.out; omega), HLS.out.1, HLS.out.2⟩, rfl⟩⟩, ⟨fun e => absurd e HE1.out⟩, ⟨fun e => absurd e HE1.out⟩⟩
            have d3 : (O == (5 : Int)) = false := by simpa using c5
            have d4 : decide (O = (5 : Int)) = false := decide_eq_false c5
            have HO5 := Aside0.mk c5
            clear c5
            by_cases c67 : O = 6 ∨ O = 7
            · have HLA := Aside0.mk (show Last BS RS z.r.base z.r.l from ⟨i, (by have := (Kd.R_reads' HK1.out.bs).1; have := HNB.out; omega), (by have := (Kd.R_reads' HK1.out.rs).1; have := HNR.out; omega), HLS.out.1, HLS.out.2⟩)
              rcases c67 with c6 | c6
              · have d5 : (O == (6 : Int)) = true := by simpa using c6
                have d6 : decide (O = (6 : Int)) = true := decide_eq_true c6
                clear c6
                go_wp2_with (fail)
                rw [HWJ.out]
                go_roundg (gko - 1)
                case rel => exact ⟨j + 1, G, SB, SR, z, s, BS, RS, _, _, _, _, _, _, by have := HJF.out; have := HJL.out; omega, rfl, rfl, rfl, rfl, rfl, HK1, HOK, HBS, ⟨HKP.out.mono (by omega)⟩, HLA, ⟨by have := HBL.out; omega⟩⟩
                case measure => have := HJF.out; have := HJL.out; omega
              · have d5 : (O == (6 : Int)) = false := by rw [c6]; decide
                have d6 : decide (O = (6 : Int)) = false := by rw [c6]; decide
                have d7 : (O == (7 : Int)) = true := by simpa using c6
                have d8 : decide (O = (7 : Int)) = true := decide_eq_true c6
                clear c6
                go_wp2_with (fail)
                rw [HWJ.out]
                go_roundg (gko - 1)
                case rel => exact ⟨j + 1, G, SB, SR, z, s, BS, RS, _, _, _, _, _, _, by have := HJF.out; have := HJL.out; omega, rfl, rfl, rfl, rfl, rfl, HK1, HOK, HBS, ⟨HKP.out.mono (by omega)⟩, HLA, ⟨by have := HBL.out; omega⟩⟩
                case measure => have := HJF.out; have := HJL.out; omega
            have d5 : (O == (6 : Int)) = false := by simp; omega
            have d6 : decide (O = (6 : Int)) = false := decide_eq_false (by omega)
            have d7 : (O == (7 : Int)) = false := by simp; omega
            have d8 : decide (O = (7 : Int)) = false := decide_eq_false (by omega)
            clear c67
            obtain ⟨⟨z2, s2, er⟩, hpu⟩ : ∃ q, putP z s bs = q := ⟨_, rfl⟩
            have HPU := Aside0.mk hpu
            have HOK2 := Aside0.mk (show Okk s2 by have := putP_okk HOK.out z bs; rw [hpu] at this; exact this)
            have HBS2 := Aside0.mk (show BsD s2 by have := putP_bsd HBS.out z HSB.out; rw [hpu] at this; exact this)
            have HRM2 := Aside0.mk (show s2.room = 2097152 by have := putP_room z s bs; rw [hpu] at this; rw [this]; exact HKP.out.room)
            have HPT := Aside0.mk (HKP.out.put (by have := HJS.out; omega) HOK.out.1 HSB.out)
            rw [hpu] at HPT
            have HZL := Aside0.mk (show z.r.l.length < 1000000000 by have h1 := HKP.out.size; have h2 := flat_len z.r.l; have := HJS.out; omega)
            clear hpu
            go_wp2_with (fail)
            refine (TPut_calls G t b z s _ bs _ HK1.out.tt HK1.out.dd HOK.out ((Rw.came (G := G) HCB.out.2 HCB.out.1 HK1.out.gw).below HW1.out) HSB.out (by have := HBLN.out; omega) HZL.out).mono ?_
            rw [HPU.out]
            rintro e w6 ⟨rfl, hT, hD, hW⟩
            have HK2 := Aside0.mk (HK1.out.act hT hD hW)
            have HKB2 := Aside0.mk ((hW.block k (blk_lt HKB.out) (fun e => by have := HKN.out; rcases e with e | e <;> omega)).trans HKB.out)
            clear hT hD hW
            have hBN : BS.length = i + 1 := by have := (Kd.R_reads' HK2.out.bs).1; have := HNB.out; omega
            have hRN : RS.length = i + 1 := by have := (Kd.R_reads' HK2.out.rs).1; have := HNR.out; omega
            have HBN := Aside0.mk (And.intro hBN hRN)
            clear hBN hRN
            by_cases c0 : er = 0 ∨ er = 50
            · obtain ⟨X, hX⟩ : ∃ X, z.r.l.map strOfNums = X := ⟨_, rfl⟩
              have HXE := Aside0.mk hX
              have HXL := Aside0.mk (show X.length < 1000000000 by rw [← hX, List.length_map]; exact HZL.out)
              have HXB := Aside0.mk (show X.length < 8796093022208 by have := HXL.out; omega)
              obtain ⟨g6, A6, c6, e1, hg1, hg2, hg3, hg4, hg5, _, hg6, hg7⟩ := KdS_at HK2.out.rs i X (hX ▸ HLS.out.2)
              subst e1
              have HGL := Aside0.mk (show g6 < w6.heap.size from HK2.out.lts g6 (.inr hg2))
              have HSRG := Aside0.mk hg2
              have HG6 := Aside0.mk hg4
              have HF6 := Aside0.mk hg5
              have HX6 := Aside0.mk (And.intro (Kd.R_reads' hg6).2.1 (Kd.R_reads' hg6).2.2)
              have hi0 : (0 : Int) ≤ (i : Int) := by omega
              have hi1 : (i : Int) < (nr : Int) := by have := HNR.out; omega
              clear hg1 hg2 hg3 hg4 hg5 hg6 hg7 hX
              have HER : Aside0 ((er = 0 → Kp z2 s2 (j + 1) ∧ z2.r = ⟨z.r.gen, z.r.base, z.r.l ++ [bs]⟩ ∧ z2.kept = z.kept) ∧ (er = 50 → Aft z.r.gen z.r.base (z.r.l ++ [bs]) z.kept z.file { s2 with off := false })) := ⟨⟨fun e => by
                rcases HPT.out with ⟨_, q⟩ | ⟨q, _⟩ | ⟨q, _⟩
                · exact q
                · rw [e] at q; exact absurd q (by decide)
                · exact absurd e q, fun e => by
                rcases HPT.out with ⟨q, _⟩ | ⟨_, q⟩ | ⟨_, q, _⟩
                · rw [e] at q; exact absurd q (by decide)
                · exact q
                · exact absurd e q⟩⟩
              have HEC := Aside0.mk c0
              have d9 : (er == (0 : Int) || er == (50 : Int)) = true := by rcases c0 with rfl | rfl <;> rfl
              rcases c0 with rfl | rfl
              · as_aux_lemma =>
                have HER0 := Aside0.mk (HER.out.1 rfl)
                clear HER
                go_wp2_with (fail)
                refine start_ (n := 14) (S := fun w' => w'.heap[k]? = some (.cells #[.int .i64 op, .int .i64 n, .slice A bs.length ca, .slice A3 ls.length c3, .slice B ks.length cB] 79 (0, 0)) ∧ w'.cell? ⟨g6, i, none⟩ = some (.slice A6 X.length c6) ∧ Below w6.heap.size w6 w') (ds := [13]) #[false, false, false, false, false, false, false, false, false, false, false, false, false, false] (by kernel_rfl) rfl rfl ⟨blk_drew HKB2.out, ((below_drew1 (Below.refl w6.heap.size w6)).cell (p := ⟨g6, i, none⟩) HGL.out).trans HG6.out, below_drew1 (Below.refl w6.heap.size w6)⟩ (fun hHeld => ?_)
                refine pure_ (i := 0) (N := some 77) (v := ?_) (a' := ?_) #[true, false, false, false, false, false, false, false, false, false, false, false, false, false] rfl rfl (by kernel_rfl) (fun _ _ _ h => h) (Or.inl ⟨by rfl, ?_⟩) ?_ ?_
                rotate_left
                · intro w'
                  go_simp
                  with_reducible rfl
                rotate_left
                · simp only [Act.put, List.setIfInBounds_toArray, List.set_cons_zero, List.set_cons_succ, i64_w, i32_w]
                  rfl
                refine pure_ (i := 1) (N := some 78) (v := ?_) (a' := ?_) #[true, true, false, false, false, false, false, false, false, false, false, false, false, false] rfl rfl (by kernel_rfl) (fun _ _ _ h => h) (Or.inl ⟨by rfl, ?_⟩) ?_ ?_
                rotate_left
                · intro w'
                  go_simp
                  with_reducible rfl
                rotate_left
                · simp only [Act.put, List.setIfInBounds_toArray, List.set_cons_zero, List.set_cons_succ, i64_w, i32_w]
                  rfl
                refine pure_ (i := 2) (N := some 79) (v := ?_) (a' := ?_) #[true, true, true, false, false, false, false, false, false, false, false, false, false, false] rfl rfl (by kernel_rfl) (fun _ _ _ h => h) (Or.inl ⟨by rfl, ?_⟩) ?_ ?_
                rotate_left
                · intro w'
                  go_simp
                  with_reducible rfl
                rotate_left
                · simp only [Act.put, List.setIfInBounds_toArray, List.set_cons_zero, List.set_cons_succ, i64_w, i32_w]
                  rfl
                refine pure_ (i := 3) (N := some 80) (v := ?_) (a' := ?_) #[true, true, true, true, false, false, false, false, false, false, false, false, false, false] rfl rfl (by kernel_rfl) (fun _ _ _ h => h) (Or.inl ⟨by rfl, ?_⟩) ?_ ?_
                rotate_left
                · intro w'
                  go_simp
                  with_reducible rfl
                rotate_left
                · simp only [Act.put, List.setIfInBounds_toArray, List.set_cons_zero, List.set_cons_succ, i64_w, i32_w]
                  rfl
                refine pure_ (i := 4) (N := some 81) (v := ?_) (a' := ?_) #[true, true, true, true, true, false, false, false, false, false, false, false, false, false] rfl rfl (by kernel_rfl) (fun _ _ _ h => h) (Or.inl ⟨by rfl, ?_⟩) ?_ ?_
                rotate_left
                · intro w'
                  go_simp
                  with_reducible rfl
                rotate_left
                · simp only [Act.put, List.setIfInBounds_toArray, List.set_cons_zero, List.set_cons_succ, i64_w, i32_w]
                  rfl
                refine pure_ (i := 7) (N := some 84) (v := ?_) (a' := ?_) #[true, true, true, true, true, false, false, true, false, false, false, false, false, false] rfl rfl (by kernel_rfl) (fun _ _ _ h => h) (Or.inl ⟨by rfl, ?_⟩) ?_ ?_
                rotate_left
                · intro w'
                  go_simp
                  with_reducible rfl
                rotate_left
                · simp only [Act.put, List.setIfInBounds_toArray, List.set_cons_zero, List.set_cons_succ, i64_w, i32_w]
                  rfl
                refine take_ (i := 5) (N := some 82) (v := ?_) (a' := ?_) #[true, true, true, true, true, true, false, true, false, false, false, false, false, false] rfl rfl (by kernel_rfl) (fun _ _ _ h => h) (Or.inl ⟨by rfl, ?_⟩) hHeld ?_ ?_
                rotate_left
                · rintro w' ⟨s0, s1, s2⟩
                  go_simp
                  with_reducible rfl
                rotate_left
                · simp only [Act.put, List.setIfInBounds_toArray, List.set_cons_zero, List.set_cons_succ, i64_w, i32_w]
                  rfl
                refine take_ (i := 8) (N := some 85) (v := ?_) (a' := ?_) #[true, true, true, true, true, true, false, true, true, false, false, false, false, false] rfl rfl (by kernel_rfl) (fun _ _ _ h => h) (Or.inl ⟨by rfl, ?_⟩) hHeld ?_ ?_
                rotate_left
                · rintro w' ⟨s0, s1, s2⟩
                  have d2_ := (blk_cell s0 2).trans (show _ = some (Value.slice A bs.length ca) from rfl)
                  go_simp
                  with_reducible rfl
                rotate_left
                · simp only [Act.put, List.setIfInBounds_toArray, List.set_cons_zero, List.set_cons_succ, i64_w, i32_w]
                  rfl
                refine take_ (i := 9) (N := some 86) (v := ?_) (a' := ?_) #[true, true, true, true, true, true, false, true, true, true, false, false, false, false] rfl rfl (by kernel_rfl) (fun _ _ _ h => h) (Or.inl ⟨by rfl, ?_⟩) hHeld ?_ ?_
                rotate_left
                · rintro w' ⟨s0, s1, s2⟩
                  have hk_ := Kd.C_string (P := Try.prog) (A := A) (c := ca) Try.underlying32 Try.underlying5 Try.underlying9 (Kd.C_below HCB.out.2 (below_step HK2.out.w s2))
                  go_simp
                  with_reducible rfl
                rotate_left
                · simp only [Act.put, List.setIfInBounds_toArray, List.set_cons_zero, List.set_cons_succ, i64_w, i32_w]
                  rfl
                refine join_ (σ := Option Addr × Nat × Option Addr × Nat) 3 #[true, true, true, true, true, true, true, true, true, true, true, false, false, false] (fun s => [(83, .slice s.1 X.length s.2.1), (87, .slice s.2.2.1 1 s.2.2.2)]) (fun s w' => Kd.R Kd.string 9 w' w6.heap.size (fun _ => True) (.slice s.1 X.length s.2.1) X ∧ Kd.C Kd.string w' s.2.2.1 1 [strOfNums bs] ∧ w'.heap[k]? = some (.cells #[.int .i64 op, .int .i64 n, .slice A bs.length ca, .slice A3 ls.length c3, .slice B ks.length cB] 79 (0, 0)) ∧ w'.cell? ⟨g6, i, none⟩ = some (.slice A6 X.length c6) ∧ Below w6.heap.size w6 w') ?_ ?_
                rotate_left
                · intro hCont
                  refine two_ (i := 6) (j := 10) (Ni := some 83) (Nj := some 87) #[true, true, true, true, true, true, true, true, true, true, false, false, false, false] #[true, true, true, true, true, true, false, true, true, true, true, false, false, false] rfl rfl rfl rfl (by kernel_rfl) (by decide) (by decide) (fun K hK => ?_) (fun K hK => ?_)
                  · skip
                    refine goes_ Try.func44 (by kernel_rfl) rfl #[.slice A6 X.length c6] (by rfl) rfl rfl (by first | rfl | (simp; done) | (simp only [List.map_toArray, List.map_cons, List.map_nil]; rfl)) ?_
                    with_reducible refine (CloneS_calls A6 c6 X _ (Kd.C_below HX6.out.2 hHeld.2.2) HX6.out.1 HXB.out).mono ?_
                    rintro e w5 ⟨v, rfl, hR, hb⟩
                    refine ⟨_, rfl, ?_⟩
                    obtain ⟨A5, c5, e5⟩ := Kd.R_slice hR
                    subst e5
                    have HR5 := Aside0.mk (Kd.R_lower hR hHeld.2.2.size)
                    clear hR
                    refine hK.out _ _ ⟨blk_below hHeld.1 (hb), ((hb).cell (p := ⟨g6, i, none⟩) (Nat.lt_of_lt_of_le HGL.out hHeld.2.2.size)).trans hHeld.2.1, below_step hHeld.2.2 (hb)⟩ (fun hHeld => ?_)
                    clear hK K
                    refine norm_ (a' := ?_) ?_ ?_
                    rotate_left
                    · show Act.put _ (some 83) _ = _
                      simp only [Act.put, List.setIfInBounds_toArray, List.set_cons_zero, List.set_cons_succ, i64_w, i32_w]
                      rfl
                    refine one_ (i := 10) (N := some 87) #[true, true, true, true, true, true, true, true, true, true, true, false, false, false] rfl rfl (by kernel_rfl) (by decide) (fun K hK => ?_)
                    refine Kd.R_lit_step Kd.string _ 9 (by rfl) (N := 87) ?hd (xs := [strOfNums bs]) (inner := [.string (strOfNums bs)]) (ok := fun _ => True) (okp := fun _ => False) ?hr ?hp (fun _ hk => hk.elim) trivial (Below.refl _ _) (Nat.le_refl _) (by simp) ?_
                    case hd => rfl
                    case hr => first | (go_simp; done) | (go_simp; rfl)
                    case hp => exact Kd.reps_scalar (enc := Value.string) [strOfNums bs]
                    intro v9 w9 h9 hb9 _ _
                    obtain ⟨A9, c9, e9⟩ : ∃ A c, v9 = .slice A 1 c := Kd.R_slice h9
                    subst e9
                    have HC9 := Aside0.mk (show Kd.C Kd.string w9 A9 1 [strOfNums bs] from (Kd.R_reads' h9).2.2)
                    have n0_ := Aside0.mk (Kd.R_below HR5.out hb9)
                    clear HR5
                    have HR5 := n0_
                    clear n0_
                    clear h9
                    refine hK.out _ _ ⟨blk_below hHeld.1 (hb9), ((hb9).cell (p := ⟨g6, i, none⟩) (Nat.lt_of_lt_of_le HGL.out hHeld.2.2.size)).trans hHeld.2.1, below_step hHeld.2.2 (hb9)⟩ (fun hHeld => ?_)
                    clear hK K
                    refine norm_ (a' := ?_) ?_ ?_
                    rotate_left
                    · show Act.put _ (some 87) _ = _
                      simp only [Act.put, List.setIfInBounds_toArray, List.set_cons_zero, List.set_cons_succ, i64_w, i32_w]
                      rfl
                    exact norm_ (by simp only [putAll, Act.put, List.setIfInBounds_toArray, List.set_cons_zero, List.set_cons_succ]) (hCont ⟨A5, c5, A9, c9⟩ _ ⟨HR5.out, HC9.out, hHeld⟩)
                  · skip
                    refine Kd.R_lit_step Kd.string _ 9 (by rfl) (N := 87) ?hd (xs := [strOfNums bs]) (inner := [.string (strOfNums bs)]) (ok := fun _ => True) (okp := fun _ => False) ?hr ?hp (fun _ hk => hk.elim) trivial (Below.refl _ _) (Nat.le_refl _) (by simp) ?_
                    case hd => rfl
                    case hr => first | (go_simp; done) | (go_simp; rfl)
                    case hp => exact Kd.reps_scalar (enc := Value.string) [strOfNums bs]
                    intro v9 w9 h9 hb9 _ _
                    obtain ⟨A9, c9, e9⟩ : ∃ A c, v9 = .slice A 1 c := Kd.R_slice h9
                    subst e9
                    have HC9 := Aside0.mk (show Kd.C Kd.string w9 A9 1 [strOfNums bs] from (Kd.R_reads' h9).2.2)
                    clear h9
                    refine hK.out _ _ ⟨blk_below hHeld.1 (hb9), ((hb9).cell (p := ⟨g6, i, none⟩) (Nat.lt_of_lt_of_le HGL.out hHeld.2.2.size)).trans hHeld.2.1, below_step hHeld.2.2 (hb9)⟩ (fun hHeld => ?_)
                    clear hK K
                    refine norm_ (a' := ?_) ?_ ?_
                    rotate_left
                    · show Act.put _ (some 87) _ = _
                      simp only [Act.put, List.setIfInBounds_toArray, List.set_cons_zero, List.set_cons_succ, i64_w, i32_w]
                      rfl
                    refine one_ (i := 6) (N := some 83) #[true, true, true, true, true, true, true, true, true, true, true, false, false, false] rfl rfl (by kernel_rfl) (by decide) (fun K hK => ?_)
                    refine goes_ Try.func44 (by kernel_rfl) rfl #[.slice A6 X.length c6] (by rfl) rfl rfl (by first | rfl | (simp; done) | (simp only [List.map_toArray, List.map_cons, List.map_nil]; rfl)) ?_
                    with_reducible refine (CloneS_calls A6 c6 X _ (Kd.C_below HX6.out.2 hHeld.2.2) HX6.out.1 HXB.out).mono ?_
                    rintro e w5 ⟨v, rfl, hR, hb⟩
                    refine ⟨_, rfl, ?_⟩
                    obtain ⟨A5, c5, e5⟩ := Kd.R_slice hR
                    subst e5
                    have HR5 := Aside0.mk (Kd.R_lower hR hHeld.2.2.size)
                    have n0_ := Aside0.mk (Kd.C_below HC9.out hb)
                    clear HC9
                    have HC9 := n0_
                    clear n0_
                    clear hR
                    refine hK.out _ _ ⟨blk_below hHeld.1 (hb), ((hb).cell (p := ⟨g6, i, none⟩) (Nat.lt_of_lt_of_le HGL.out hHeld.2.2.size)).trans hHeld.2.1, below_step hHeld.2.2 (hb)⟩ (fun hHeld => ?_)
                    clear hK K
                    refine norm_ (a' := ?_) ?_ ?_
                    rotate_left
                    · show Act.put _ (some 83) _ = _
                      simp only [Act.put, List.setIfInBounds_toArray, List.set_cons_zero, List.set_cons_succ, i64_w, i32_w]
                      rfl
                    exact norm_ (by simp only [putAll, Act.put, List.setIfInBounds_toArray, List.set_cons_zero, List.set_cons_succ]) (hCont ⟨A5, c5, A9, c9⟩ _ ⟨HR5.out, HC9.out, hHeld⟩)
                rintro ⟨A5, c5, A9, c9⟩ w10 ⟨hR5, hC9, hHeld⟩
                refine norm_ (a' := ?_) ?_ ?_
                rotate_left
                · simp only [putAll, Act.put, List.setIfInBounds_toArray, List.set_cons_zero, List.set_cons_succ]
                  rfl
                refine one_ (i := 11) (N := some 88) #[true, true, true, true, true, true, true, true, true, true, true, true, false, false] rfl rfl (by kernel_rfl) (by decide) (fun K hK => ?_)
                refine Kd.R_append_rows_step Kd.string (w0 := w6) (W := w10) w6.heap.size (by rfl) (.tmp 83) (.tmp 87) 81 9 (.string ⟨#[]⟩) 16 (by rfl) Try.underlying81 info9 rfl (by decide) (by omega) (.slice A5 X.length c5) X [strOfNums bs] _ _ _ (fun _ => True) (fun _ => False) (by rfl) (by rfl) ?aO ?aR (fun _ _ h => h) (fun _ h => h.elim) ?aF ?aB ?aS ?aL ?_
                case aR => exact hC9
                case aB => exact hHeld.2.2
                case aF => exact fun _ _ => trivial
                case aO => exact hR5
                case aS => exact hHeld.2.2.size
                case aL => have := HXL.out; omega
                intro vb w11 ho hb hg hat
                obtain ⟨A11, c11, e11⟩ : ∃ A c, vb = .slice A (X.length + 1) c := by simpa using Kd.R_slice ho
                subst e11
                have HR11 := Aside0.mk ho
                have HB11 := Aside0.mk hb
                clear ho hat hg
                refine hK.out _ _ ⟨blk_below HKB2.out HB11.out, (HB11.out.cell (p := ⟨g6, i, none⟩) HGL.out).trans HG6.out, HB11.out⟩ (fun hHeld => ?_)
                clear hK K
                refine norm_ (a' := ?_) ?_ ?_
                rotate_left
                · show Act.put _ (some 88) _ = _
                  simp only [Act.put, List.setIfInBounds_toArray, List.set_cons_zero, List.set_cons_succ, i64_w, i32_w]
                  rfl
                refine pure_ (i := 12) (N := some 89) (v := ?_) (a' := ?_) #[true, true, true, true, true, true, true, true, true, true, true, true, true, false] rfl rfl (by kernel_rfl) (fun _ _ _ h => h) (Or.inl ⟨by rfl, ?_⟩) ?_ ?_
                rotate_left
                · intro w'
                  go_simp
                  with_reducible rfl
                rotate_left
                · simp only [Act.put, List.setIfInBounds_toArray, List.set_cons_zero, List.set_cons_succ, i64_w, i32_w]
                  rfl
                refine last_ (i := 13) (N := none) #[true, true, true, true, true, true, true, true, true, true, true, true, true, true] rfl rfl (by kernel_rfl) (by decide) (fun K hK => ?_)
                have hcS := hHeld.2.1
                have hfS : _ := (HB11.out.frozen (p := ⟨g6, i, none⟩) HGL.out).trans HF6.out
                refine skip_ (w1 := ?_) (by rfl) rfl ?_ ?_
                rotate_left
                · go_simp
                  rfl
                refine hK.out _ _ ?_
                clear hK K
                refine done_ (by kernel_rfl) ?_
                have HK9 := Aside0.mk (KW.setR (RS' := RS.set i (X ++ [strOfNums bs])) HK2.out HB11.out HSRG.out (by
                  obtain ⟨g', A', c', e', _, _, _, _, _, _, _, hput⟩ := KdS_at (ok := fun k_ => SR k_ ∨ w6.heap.size ≤ k_) (Kd.R_mono (Kd.R_below HK2.out.rs HB11.out) (fun k_ h_ => .inl h_)) i X (HXE.out ▸ HLS.out.2)
                  injection e' with e'
                  injection e' with e'
                  subst e'
                  exact hput _ _ (Kd.R_lower (Kd.R_mono (Kd.R_bound HR11.out) (fun k_ h_ => ⟨.inr h_.2.1, fun e_ => by have := HGL.out; have := h_.2.1; omega⟩)) HK2.out.ml)))
                have HKB9 := Aside0.mk (show (w11.setCell ⟨g6, i, none⟩ (.slice A11 (X.length + 1) c11)).heap[k]? = some (.cells #[.int .i64 op, .int .i64 n, .slice A bs.length ca, .slice A3 ls.length c3, .slice B ks.length cB] 79 (0, 0)) by
                  rw [Below.heap_setCell w11 ⟨g6, i, none⟩ _ k (by have := HKN.out.2.2 g6 (.inr HSRG.out); show k ≠ g6; omega)]
                  exact blk_below HKB2.out HB11.out)
                go_wp2_with (fail)
                go_meet
                exact ⟨_, _, _, z2, s2, BS, RS.set i (X ++ [strOfNums bs]), _, _, _, _, _, _, z.kept, 0, rfl, rfl, rfl, rfl, HK9, HOK2, HBS2, HRM2, HKB9, ⟨by have := HBL.out; omega⟩, ⟨fun _ => ⟨HER0.out.1, by rw [HER0.out.2.1, ← HXE.out]; exact Last.put bs HBN.out.1 HBN.out.2 HLS.out.1, HER0.out.2.2.symm⟩⟩, ⟨fun e => absurd e (by decide)⟩, ⟨fun e => absurd e (by decide)⟩⟩
              · as_aux_lemma =>
                have HER0 := Aside0.mk (HER.out.2 rfl)
                clear HER
                go_wp2_with (fail)
                refine start_ (n := 14) (S := fun w' => w'.heap[k]? = some (.cells #[.int .i64 op, .int .i64 n, .slice A bs.length ca, .slice A3 ls.length c3, .slice B ks.length cB] 79 (0, 0)) ∧ w'.cell? ⟨g6, i, none⟩ = some (.slice A6 X.length c6) ∧ Below w6.heap.size w6 w') (ds := [13]) #[false, false, false, false, false, false, false, false, false, false, false, false, false, false] (by kernel_rfl) rfl rfl ⟨blk_drew HKB2.out, ((below_drew1 (Below.refl w6.heap.size w6)).cell (p := ⟨g6, i, none⟩) HGL.out).trans HG6.out, below_drew1 (Below.refl w6.heap.size w6)⟩ (fun hHeld => ?_)
                refine pure_ (i := 0) (N := some 77) (v := ?_) (a' := ?_) #[true, false, false, false, false, false, false, false, false, false, false, false, false, false] rfl rfl (by kernel_rfl) (fun _ _ _ h => h) (Or.inl ⟨by rfl, ?_⟩) ?_ ?_
                rotate_left
                · intro w'
                  go_simp
                  with_reducible rfl
                rotate_left
                · simp only [Act.put, List.setIfInBounds_toArray, List.set_cons_zero, List.set_cons_succ, i64_w, i32_w]
                  rfl
                refine pure_ (i := 1) (N := some 78) (v := ?_) (a' := ?_) #[true, true, false, false, false, false, false, false, false, false, false, false, false, false] rfl rfl (by kernel_rfl) (fun _ _ _ h => h) (Or.inl ⟨by rfl, ?_⟩) ?_ ?_
                rotate_left
                · intro w'
                  go_simp
                  with_reducible rfl
                rotate_left
                · simp only [Act.put, List.setIfInBounds_toArray, List.set_cons_zero, List.set_cons_succ, i64_w, i32_w]
                  rfl
                refine pure_ (i := 2) (N := some 79) (v := ?_) (a' := ?_) #[true, true, true, false, false, false, false, false, false, false, false, false, false, false] rfl rfl (by kernel_rfl) (fun _ _ _ h => h) (Or.inl ⟨by rfl, ?_⟩) ?_ ?_
                rotate_left
                · intro w'
                  go_simp
                  with_reducible rfl
                rotate_left
                · simp only [Act.put, List.setIfInBounds_toArray, List.set_cons_zero, List.set_cons_succ, i64_w, i32_w]
                  rfl
                refine pure_ (i := 3) (N := some 80) (v := ?_) (a' := ?_) #[true, true, true, true, false, false, false, false, false, false, false, false, false, false] rfl rfl (by kernel_rfl) (fun _ _ _ h => h) (Or.inl ⟨by rfl, ?_⟩) ?_ ?_
                rotate_left
                · intro w'
                  go_simp
                  with_reducible rfl
                rotate_left
                · simp only [Act.put, List.setIfInBounds_toArray, List.set_cons_zero, List.set_cons_succ, i64_w, i32_w]
                  rfl
                refine pure_ (i := 4) (N := some 81) (v := ?_) (a' := ?_) #[true, true, true, true, true, false, false, false, false, false, false, false, false, false] rfl rfl (by kernel_rfl) (fun _ _ _ h => h) (Or.inl ⟨by rfl, ?_⟩) ?_ ?_
                rotate_left
                · intro w'
                  go_simp
                  with_reducible rfl
                rotate_left
                · simp only [Act.put, List.setIfInBounds_toArray, List.set_cons_zero, List.set_cons_succ, i64_w, i32_w]
                  rfl
                refine pure_ (i := 7) (N := some 84) (v := ?_) (a' := ?_) #[true, true, true, true, true, false, false, true, false, false, false, false, false, false] rfl rfl (by kernel_rfl) (fun _ _ _ h => h) (Or.inl ⟨by rfl, ?_⟩) ?_ ?_
                rotate_left
                · intro w'
                  go_simp
                  with_reducible rfl
                rotate_left
                · simp only [Act.put, List.setIfInBounds_toArray, List.set_cons_zero, List.set_cons_succ, i64_w, i32_w]
                  rfl
                refine take_ (i := 5) (N := some 82) (v := ?_) (a' := ?_) #[true, true, true, true, true, true, false, true, false, false, false, false, false, false] rfl rfl (by kernel_rfl) (fun _ _ _ h => h) (Or.inl ⟨by rfl, ?_⟩) hHeld ?_ ?_
                rotate_left
                · rintro w' ⟨s0, s1, s2⟩
                  go_simp
                  with_reducible rfl
                rotate_left
                · simp only [Act.put, List.setIfInBounds_toArray, List.set_cons_zero, List.set_cons_succ, i64_w, i32_w]
                  rfl
                refine take_ (i := 8) (N := some 85) (v := ?_) (a' := ?_) #[true, true, true, true, true, true, false, true, true, false, false, false, false, false] rfl rfl (by kernel_rfl) (fun _ _ _ h => h) (Or.inl ⟨by rfl, ?_⟩) hHeld ?_ ?_
                rotate_left
                · rintro w' ⟨s0, s1, s2⟩
                  have d2_ := (blk_cell s0 2).trans (show _ = some (Value.slice A bs.length ca) from rfl)
                  go_simp
                  with_reducible rfl
                rotate_left
                · simp only [Act.put, List.setIfInBounds_toArray, List.set_cons_zero, List.set_cons_succ, i64_w, i32_w]
                  rfl
                refine take_ (i := 9) (N := some 86) (v := ?_) (a' := ?_) #[true, true, true, true, true, true, false, true, true, true, false, false, false, false] rfl rfl (by kernel_rfl) (fun _ _ _ h => h) (Or.inl ⟨by rfl, ?_⟩) hHeld ?_ ?_
                rotate_left
                · rintro w' ⟨s0, s1, s2⟩
                  have hk_ := Kd.C_string (P := Try.prog) (A := A) (c := ca) Try.underlying32 Try.underlying5 Try.underlying9 (Kd.C_below HCB.out.2 (below_step HK2.out.w s2))
                  go_simp
                  with_reducible rfl
                rotate_left
                · simp only [Act.put, List.setIfInBounds_toArray, List.set_cons_zero, List.set_cons_succ, i64_w, i32_w]
                  rfl
                refine join_ (σ := Option Addr × Nat × Option Addr × Nat) 3 #[true, true, true, true, true, true, true, true, true, true, true, false, false, false] (fun s => [(83, .slice s.1 X.length s.2.1), (87, .slice s.2.2.1 1 s.2.2.2)]) (fun s w' => Kd.R Kd.string 9 w' w6.heap.size (fun _ => True) (.slice s.1 X.length s.2.1) X ∧ Kd.C Kd.string w' s.2.2.1 1 [strOfNums bs] ∧ w'.heap[k]? = some (.cells #[.int .i64 op, .int .i64 n, .slice A bs.length ca, .slice A3 ls.length c3, .slice B ks.length cB] 79 (0, 0)) ∧ w'.cell? ⟨g6, i, none⟩ = some (.slice A6 X.length c6) ∧ Below w6.heap.size w6 w') ?_ ?_
                rotate_left
                · intro hCont
                  refine two_ (i := 6) (j := 10) (Ni := some 83) (Nj := some 87) #[true, true, true, true, true, true, true, true, true, true, false, false, false, false] #[true, true, true, true, true, true, false, true, true, true, true, false, false, false] rfl rfl rfl rfl (by kernel_rfl) (by decide) (by decide) (fun K hK => ?_) (fun K hK => ?_)
                  · skip
                    refine goes_ Try.func44 (by kernel_rfl) rfl #[.slice A6 X.length c6] (by rfl) rfl rfl (by first | rfl | (simp; done) | (simp only [List.map_toArray, List.map_cons, List.map_nil]; rfl)) ?_
                    with_reducible refine (CloneS_calls A6 c6 X _ (Kd.C_below HX6.out.2 hHeld.2.2) HX6.out.1 HXB.out).mono ?_
                    rintro e w5 ⟨v, rfl, hR, hb⟩
                    refine ⟨_, rfl, ?_⟩
                    obtain ⟨A5, c5, e5⟩ := Kd.R_slice hR
                    subst e5
                    have HR5 := Aside0.mk (Kd.R_lower hR hHeld.2.2.size)
                    clear hR
                    refine hK.out _ _ ⟨blk_below hHeld.1 (hb), ((hb).cell (p := ⟨g6, i, none⟩) (Nat.lt_of_lt_of_le HGL.out hHeld.2.2.size)).trans hHeld.2.1, below_step hHeld.2.2 (hb)⟩ (fun hHeld => ?_)
                    clear hK K
                    refine norm_ (a' := ?_) ?_ ?_
                    rotate_left
                    · show Act.put _ (some 83) _ = _
                      simp only [Act.put, List.setIfInBounds_toArray, List.set_cons_zero, List.set_cons_succ, i64_w, i32_w]
                      rfl
                    refine one_ (i := 10) (N := some 87) #[true, true, true, true, true, true, true, true, true, true, true, false, false, false] rfl rfl (by kernel_rfl) (by decide) (fun K hK => ?_)
                    refine Kd.R_lit_step Kd.string _ 9 (by rfl) (N := 87) ?hd (xs := [strOfNums bs]) (inner := [.string (strOfNums bs)]) (ok := fun _ => True) (okp := fun _ => False) ?hr ?hp (fun _ hk => hk.elim) trivial (Below.refl _ _) (Nat.le_refl _) (by simp) ?_
                    case hd => rfl
                    case hr => first | (go_simp; done) | (go_simp; rfl)
                    case hp => exact Kd.reps_scalar (enc := Value.string) [strOfNums bs]
                    intro v9 w9 h9 hb9 _ _
                    obtain ⟨A9, c9, e9⟩ : ∃ A c, v9 = .slice A 1 c := Kd.R_slice h9
                    subst e9
                    have HC9 := Aside0.mk (show Kd.C Kd.string w9 A9 1 [strOfNums bs] from (Kd.R_reads' h9).2.2)
                    have n0_ := Aside0.mk (Kd.R_below HR5.out hb9)
                    clear HR5
                    have HR5 := n0_
                    clear n0_
                    clear h9
                    refine hK.out _ _ ⟨blk_below hHeld.1 (hb9), ((hb9).cell (p := ⟨g6, i, none⟩) (Nat.lt_of_lt_of_le HGL.out hHeld.2.2.size)).trans hHeld.2.1, below_step hHeld.2.2 (hb9)⟩ (fun hHeld => ?_)
                    clear hK K
                    refine norm_ (a' := ?_) ?_ ?_
                    rotate_left
                    · show Act.put _ (some 87) _ = _
                      simp only [Act.put, List.setIfInBounds_toArray, List.set_cons_zero, List.set_cons_succ, i64_w, i32_w]
                      rfl
                    exact norm_ (by simp only [putAll, Act.put, List.setIfInBounds_toArray, List.set_cons_zero, List.set_cons_succ]) (hCont ⟨A5, c5, A9, c9⟩ _ ⟨HR5.out, HC9.out, hHeld⟩)
                  · skip
                    refine Kd.R_lit_step Kd.string _ 9 (by rfl) (N := 87) ?hd (xs := [strOfNums bs]) (inner := [.string (strOfNums bs)]) (ok := fun _ => True) (okp := fun _ => False) ?hr ?hp (fun _ hk => hk.elim) trivial (Below.refl _ _) (Nat.le_refl _) (by simp) ?_
                    case hd => rfl
                    case hr => first | (go_simp; done) | (go_simp; rfl)
                    case hp => exact Kd.reps_scalar (enc := Value.string) [strOfNums bs]
                    intro v9 w9 h9 hb9 _ _
                    obtain ⟨A9, c9, e9⟩ : ∃ A c, v9 = .slice A 1 c := Kd.R_slice h9
                    subst e9
                    have HC9 := Aside0.mk (show Kd.C Kd.string w9 A9 1 [strOfNums bs] from (Kd.R_reads' h9).2.2)
                    clear h9
                    refine hK.out _ _ ⟨blk_below hHeld.1 (hb9), ((hb9).cell (p := ⟨g6, i, none⟩) (Nat.lt_of_lt_of_le HGL.out hHeld.2.2.size)).trans hHeld.2.1, below_step hHeld.2.2 (hb9)⟩ (fun hHeld => ?_)
                    clear hK K
                    refine norm_ (a' := ?_) ?_ ?_
                    rotate_left
                    · show Act.put _ (some 87) _ = _
                      simp only [Act.put, List.setIfInBounds_toArray, List.set_cons_zero, List.set_cons_succ, i64_w, i32_w]
                      rfl
                    refine one_ (i := 6) (N := some 83) #[true, true, true, true, true, true, true, true, true, true, true, false, false, false] rfl rfl (by kernel_rfl) (by decide) (fun K hK => ?_)
                    refine goes_ Try.func44 (by kernel_rfl) rfl #[.slice A6 X.length c6] (by rfl) rfl rfl (by first | rfl | (simp; done) | (simp only [List.map_toArray, List.map_cons, List.map_nil]; rfl)) ?_
                    with_reducible refine (CloneS_calls A6 c6 X _ (Kd.C_below HX6.out.2 hHeld.2.2) HX6.out.1 HXB.out).mono ?_
                    rintro e w5 ⟨v, rfl, hR, hb⟩
                    refine ⟨_, rfl, ?_⟩
                    obtain ⟨A5, c5, e5⟩ := Kd.R_slice hR
                    subst e5
                    have HR5 := Aside0.mk (Kd.R_lower hR hHeld.2.2.size)
                    have n0_ := Aside0.mk (Kd.C_below HC9.out hb)
                    clear HC9
                    have HC9 := n0_
                    clear n0_
                    clear hR
                    refine hK.out _ _ ⟨blk_below hHeld.1 (hb), ((hb).cell (p := ⟨g6, i, none⟩) (Nat.lt_of_lt_of_le HGL.out hHeld.2.2.size)).trans hHeld.2.1, below_step hHeld.2.2 (hb)⟩ (fun hHeld => ?_)
                    clear hK K
                    refine norm_ (a' := ?_) ?_ ?_
                    rotate_left
                    · show Act.put _ (some 83) _ = _
                      simp only [Act.put, List.setIfInBounds_toArray, List.set_cons_zero, List.set_cons_succ, i64_w, i32_w]
                      rfl
                    exact norm_ (by simp only [putAll, Act.put, List.setIfInBounds_toArray, List.set_cons_zero, List.set_cons_succ]) (hCont ⟨A5, c5, A9, c9⟩ _ ⟨HR5.out, HC9.out, hHeld⟩)
                rintro ⟨A5, c5, A9, c9⟩ w10 ⟨hR5, hC9, hHeld⟩
                refine norm_ (a' := ?_) ?_ ?_
                rotate_left
                · simp only [putAll, Act.put, List.setIfInBounds_toArray, List.set_cons_zero, List.set_cons_succ]
                  rfl
                refine one_ (i := 11) (N := some 88) #[true, true, true, true, true, true, true, true, true, true, true, true, false, false] rfl rfl (by kernel_rfl) (by decide) (fun K hK => ?_)
                refine Kd.R_append_rows_step Kd.string (w0 := w6) (W := w10) w6.heap.size (by rfl) (.tmp 83) (.tmp 87) 81 9 (.string ⟨#[]⟩) 16 (by rfl) Try.underlying81 info9 rfl (by decide) (by omega) (.slice A5 X.length c5) X [strOfNums bs] _ _ _ (fun _ => True) (fun _ => False) (by rfl) (by rfl) ?aO ?aR (fun _ _ h => h) (fun _ h => h.elim) ?aF ?aB ?aS ?aL ?_
                case aR => exact hC9
                case aB => exact hHeld.2.2
                case aF => exact fun _ _ => trivial
                case aO => exact hR5
                case aS => exact hHeld.2.2.size
                case aL => have := HXL.out; omega
                intro vb w11 ho hb hg hat
                obtain ⟨A11, c11, e11⟩ : ∃ A c, vb = .slice A (X.length + 1) c := by simpa using Kd.R_slice ho
                subst e11
                have HR11 := Aside0.mk ho
                have HB11 := Aside0.mk hb
                clear ho hat hg
                refine hK.out _ _ ⟨blk_below HKB2.out HB11.out, (HB11.out.cell (p := ⟨g6, i, none⟩) HGL.out).trans HG6.out, HB11.out⟩ (fun hHeld => ?_)
                clear hK K
                refine norm_ (a' := ?_) ?_ ?_
                rotate_left
                · show Act.put _ (some 88) _ = _
                  simp only [Act.put, List.setIfInBounds_toArray, List.set_cons_zero, List.set_cons_succ, i64_w, i32_w]
                  rfl
                refine pure_ (i := 12) (N := some 89) (v := ?_) (a' := ?_) #[true, true, true, true, true, true, true, true, true, true, true, true, true, false] rfl rfl (by kernel_rfl) (fun _ _ _ h => h) (Or.inl ⟨by rfl, ?_⟩) ?_ ?_
                rotate_left
                · intro w'
                  go_simp
                  with_reducible rfl
                rotate_left
                · simp only [Act.put, List.setIfInBounds_toArray, List.set_cons_zero, List.set_cons_succ, i64_w, i32_w]
                  rfl
                refine last_ (i := 13) (N := none) #[true, true, true, true, true, true, true, true, true, true, true, true, true, true] rfl rfl (by kernel_rfl) (by decide) (fun K hK => ?_)
                have hcS := hHeld.2.1
                have hfS : _ := (HB11.out.frozen (p := ⟨g6, i, none⟩) HGL.out).trans HF6.out
                refine skip_ (w1 := ?_) (by rfl) rfl ?_ ?_
                rotate_left
                · go_simp
                  rfl
                refine hK.out _ _ ?_
                clear hK K
                refine done_ (by kernel_rfl) ?_
                have HK9 := Aside0.mk (KW.setR (RS' := RS.set i (X ++ [strOfNums bs])) HK2.out HB11.out HSRG.out (by
                  obtain ⟨g', A', c', e', _, _, _, _, _, _, _, hput⟩ := KdS_at (ok := fun k_ => SR k_ ∨ w6.heap.size ≤ k_) (Kd.R_mono (Kd.R_below HK2.out.rs HB11.out) (fun k_ h_ => .inl h_)) i X (HXE.out ▸ HLS.out.2)
                  injection e' with e'
                  injection e' with e'
                  subst e'
                  exact hput _ _ (Kd.R_lower (Kd.R_mono (Kd.R_bound HR11.out) (fun k_ h_ => ⟨.inr h_.2.1, fun e_ => by have := HGL.out; have := h_.2.1; omega⟩)) HK2.out.ml)))
                have HKB9 := Aside0.mk (show (w11.setCell ⟨g6, i, none⟩ (.slice A11 (X.length + 1) c11)).heap[k]? = some (.cells #[.int .i64 op, .int .i64 n, .slice A bs.length ca, .slice A3 ls.length c3, .slice B ks.length cB] 79 (0, 0)) by
                  rw [Below.heap_setCell w11 ⟨g6, i, none⟩ _ k (by have := HKN.out.2.2 g6 (.inr HSRG.out); show k ≠ g6; omega)]
                  exact blk_below HKB2.out HB11.out)
                go_wp2_with (fail)
                go_meet
                exact ⟨_, _, _, z2, s2, BS, RS.set i (X ++ [strOfNums bs]), _, _, _, _, _, _, z.kept, 50, rfl, rfl, rfl, rfl, HK9, HOK2, HBS2, HRM2, HKB9, ⟨by have := HBL.out; omega⟩, ⟨fun e => absurd rfl e⟩, ⟨fun _ _ => ⟨_, _, _, _, _, by rw [← HXE.out]; exact Last.put bs HBN.out.1 HBN.out.2 HLS.out.1, HER0.out, Nat.le_refl _⟩⟩, ⟨fun _ e => absurd e HO5.out⟩⟩
            have d9 : (er == (0 : Int)) = false := by simp; omega
            have d10 : decide (er = (0 : Int)) = false := decide_eq_false (by omega)
            have d11 : (er == (50 : Int)) = false := by simp; omega
            have d12 : decide (er = (50 : Int)) = false := decide_eq_false (by omega)
            have HER := Aside0.mk (show z2 = z ∧ s2 = s by
              rcases HPT.out with ⟨q, _⟩ | ⟨q, _⟩ | ⟨_, _, q⟩
              · exact absurd (.inl q) c0
              · exact absurd (.inr q) c0
              · injection q with q1 q2
                injection q2 with q2 q3
                exact ⟨q1, q2⟩)
            have HE1 := Aside0.mk (show er ≠ 50 from fun e => c0 (.inr e))
            clear c0
            go_wp2_with (fail)
            go_meet
            exact ⟨G, SB, SR, z2, s2, BS, RS, _, _, _, _, _, _, z.kept, er, rfl, rfl, rfl, rfl, HK2, HOK2, HBS2, HRM2, HKB2, ⟨by have := HBL.out; omega⟩, ⟨fun _ => by rw [HER.out.1, HER.out.2]; exact ⟨HKP.out.mono (by omega), ⟨i, HBN.out.1, HBN.out.2, HLS.out.1, HLS.out.2⟩, rfl⟩⟩, ⟨fun e => absurd e HE1.out⟩, ⟨fun e => absurd e HE1.out⟩⟩
          case rest => as_aux_lemma =>
            obtain ⟨G', SB', SR', z', s', BS', RS', Ab', Ar', nb', nr', cb', cr', kept, er, rfl, rfl, rfl, rfl, HKW', HOK', HBS', HRM', HKB', HBL', HE0, HE1, HE2⟩ := hcut
            clear HKP HIS HNR HNB HLS HWI HKN HKB HK1 HW1 HOK HBS HBL
            by_cases c0 : er = 50
            · subst c0
              have hd0 := (blk_cell HKB'.out 0).trans (show _ = some (Value.int .i64 op) from rfl)
              have HOO := HO.out
              by_cases c5 : O = 5
              · have d1 : (Go.bits .and .i64 op 7 == (5 : Int)) = true := by rw [HOO, c5]; rfl
                have d2 : decide (Go.bits .and .i64 op 7 = (5 : Int)) = true := by rw [HOO, c5]; rfl
                obtain ⟨i, x, s'', B0, R0, B1, R1, l1, l2, l3, l4, l5, l6, ho, hcase⟩ := (HE2.out rfl c5).opens
                clear HOO c5 HE0 HE1 HE2 HO
                have HLL := Aside0.mk (And.intro l1 l2)
                have HL3 := Aside0.mk l3
                have HL4 := Aside0.mk l4
                have HL5 := Aside0.mk l5
                have HL6 := Aside0.mk l6
                have HOP := Aside0.mk ho
                have HCS := Aside0.mk hcase
                clear l1 l2 l3 l4 l5 l6 ho hcase
                go_wp2_with (fail)
                clear d1 d2 hd0
                refine (reopened_calls G' b s' s'' x _ HKW'.out.dd (by rw [HRM'.out]; decide) (by have := HOK'.out.start; rw [Dk.start_eq (by rw [HRM'.out]; decide)] at this; exact this) HBS'.out HOP.out).mono ?_
                rintro e w7 ⟨Q, q, rfl, hR, hW⟩
                obtain ⟨hB7, hR7, hW7⟩ := HKW'.out.rows hW
                obtain ⟨b0, hb0⟩ : ∃ b0, strOfNums x.r.base = b0 := ⟨_, rfl⟩
                obtain ⟨X, hX⟩ : ∃ X, x.r.l.map strOfNums = X := ⟨_, rfl⟩
                obtain ⟨nx, hnx⟩ : ∃ nx, x.r.l.length = nx := ⟨_, rfl⟩
                rw [hX, hnx] at hR
                rw [hb0, hnx]
                have HXN := Aside0.mk (show nx = X.length by rw [← hnx, ← hX, List.length_map])
                rw [hb0, hX] at HCS
                have HQ7 := Aside0.mk (And.intro (Kd.R_reads' hR).2.1 (Kd.R_reads' hR).2.2)
                obtain ⟨m, hm⟩ : ∃ m : Nat, m = i + 1 := ⟨_, rfl⟩
                rw [← hm] at HL5 HL6
                obtain ⟨g1, e1, h1⟩ := R_str_at hB7 m B1 HL5.out
                obtain ⟨g1', e1', h1'⟩ := R_str_at hB7 i B0 HL3.out
                obtain ⟨g2, A7, c7, e2, _, _, hnr, h2, _, _, hr1, _⟩ := KdS_at hR7 m R1 HL6.out
                obtain ⟨g2', A5, c5, e2', _, _, hnr0, h2', _, _, hr0, _⟩ := KdS_at hR7 i R0 HL4.out
                subst e1 e2
                injection e1' with e1'
                injection e1' with e1'
                injection e2' with e2'
                injection e2' with e2'
                subst e1' e2'
                have hnb := (Kd.R_reads' hB7).1
                have hkx := blk_new w7 (.cells #[.pointer none, .int .i64 0, .string b0, .slice Q nx q, .int .i64 0, .int .i64 0] 92)
                have hbx := below_alloc (Below.refl w7.heap.size w7) (.cells #[.pointer none, .int .i64 0, .string b0, .slice Q nx q, .int .i64 0, .int .i64 0] 92)
                have HHX := Aside0.mk hkx
                have HBX0 := Aside0.mk hbx
                have HH1 := Aside0.mk h1
                have HH1' := Aside0.mk h1'
                have HH2 := Aside0.mk h2
                have HH2' := Aside0.mk h2'
                have HRR1 := Aside0.mk (And.intro (Kd.R_reads' hr1).2.1 (Kd.R_reads' hr1).2.2)
                have HRR0 := Aside0.mk (And.intro (Kd.R_reads' hr0).2.1 (Kd.R_reads' hr0).2.2)
                have HW7 := Aside0.mk (below_step hW7 hbx)
                have HM := Aside0.mk hm
                have HWM := Aside0.mk (show wrap64 ((nr' : Int) - 1) = (m : Int) by have := HLL.out.2; have := HBL'.out; have := HLL.out.1; have := HJS.out; unfold wrap64; omega)
                have HMM := Aside0.mk (show IntKind.i64.wrap ((m : Int) - 1) = (i : Int) by have := HBL'.out; have := HLL.out.1; have := HJS.out; exact (IntWalk.i64_in _ (by omega)).trans (by omega))
                have HMI := Aside0.mk (show (m : Int) < (nb' : Int) ∧ (m : Int) < (nr' : Int) ∧ (i : Int) < (nb' : Int) ∧ (i : Int) < (nr' : Int) by have := HLL.out; omega)
                clear hkx hbx h1 h1' h2 h2' hr1 hr0 hW7 hm hR hW hB7 hR7 hX hnx hb0 hnr hnr0 hnb
                go_upto_region 33 with (fail)
                obtain ⟨kx, hkx⟩ : ∃ kx, w7.heap.size = kx := ⟨_, rfl⟩
                rw [hkx] at HHX ⊢
                obtain ⟨w8, hw8⟩ : ∃ w8, w7.alloc (.cells #[.pointer none, .int .i64 0, .string b0, .slice Q nx q, .int .i64 0, .int .i64 0] 92) = w8 := ⟨_, rfl⟩
                rw [hw8] at HHX HBX0 HW7 ⊢
                have HBX := HHX
                have HC1 := Aside0.mk ((HBX0.out.cell (p := ⟨g1, m, none⟩) (World.block_lt_of_cell? _ _ HH1.out)).trans HH1.out)
                have HC3 := Aside0.mk ((HBX0.out.cell (p := ⟨g1, i, none⟩) (World.block_lt_of_cell? _ _ HH1'.out)).trans HH1'.out)
                have HC2 := Aside0.mk ((HBX0.out.cell (p := ⟨g2, m, none⟩) (World.block_lt_of_cell? _ _ HH2.out)).trans HH2.out)
                have HC4 := Aside0.mk ((HBX0.out.cell (p := ⟨g2, i, none⟩) (World.block_lt_of_cell? _ _ HH2'.out)).trans HH2'.out)
                have HQX := Aside0.mk (And.intro HQ7.out.1 (Kd.C_below HQ7.out.2 HBX0.out))
                have HR1 := Aside0.mk (And.intro HRR1.out.1 (Kd.C_below HRR1.out.2 HBX0.out))
                have HR0 := Aside0.mk (And.intro HRR0.out.1 (Kd.C_below HRR0.out.2 HBX0.out))
                clear HHX HBX0 HH1 HH1' HH2 HH2' HQ7 HRR1 HRR0 hw8 hkx
                have hm0 : (0 : Int) ≤ (m : Int) := by omega
                have hm1 : (m : Int) < (nb' : Int) := HMI.out.1
                have hm2 : (m : Int) < (nr' : Int) := HMI.out.2.1
                have hi0 : (0 : Int) ≤ (i : Int) := by omega
                have hi1 : (i : Int) < (nb' : Int) := HMI.out.2.2.1
                have hi2 : (i : Int) < (nr' : Int) := HMI.out.2.2.2
                have hmw : IntKind.i64.wrap ((m : Int) - 1) = (i : Int) := HMM.out
                have h3 : (b0 = B1 ∧ eqSt X R1 = true) ∨ (b0 = B1 ∧ eqSt X R1 = false) ∨ b0 ≠ B1 := by
                  by_cases hbb : b0 = B1
                  · cases hrr : eqSt X R1
                    · exact .inr (.inl ⟨hbb, rfl⟩)
                    · exact .inl ⟨hbb, rfl⟩
                  · exact .inr (.inr hbb)
                clear HMI HMM HM
                rcases h3 with ⟨hbb, hrr⟩ | ⟨hbb, hrr⟩ | hbb
                · as_aux_lemma =>
                  have hs1 : (b0 == B1) = true := str_beq hbb
                  have hs2 : (b0.toList == B1.toList) = true := by rw [hbb]; exact beq_self_eq_true _
                  have HEQ := Aside0.mk hrr
                  clear hbb hrr HCS
                  go_wp2_with (fail)
                  rw [HWM.out]
                  refine start_ (n := 21) (S := fun w' => w'.heap[kx]? = some (.cells #[.pointer none, .int .i64 0, .string b0, .slice Q nx q, .int .i64 0, .int .i64 0] 92 (0, 0)) ∧ w'.cell? ⟨g1, m, none⟩ = some (Value.string B1) ∧ w'.cell? ⟨g2, m, none⟩ = some (Value.slice A7 R1.length c7) ∧ Below w8.heap.size w8 w') (ds := []) #[false, false, false, false, false, false, false, false, false, false, false, false, false, false, false, false, false, false, false, false, false] (by kernel_rfl) rfl rfl ⟨blk_below HBX.out (below_drew1 (Below.refl w8.heap.size w8)), ((below_drew1 (Below.refl w8.heap.size w8)).cell (p := ⟨g1, m, none⟩) (World.block_lt_of_cell? _ ⟨g1, m, none⟩ HC1.out)).trans HC1.out, ((below_drew1 (Below.refl w8.heap.size w8)).cell (p := ⟨g2, m, none⟩) (World.block_lt_of_cell? _ ⟨g2, m, none⟩ HC2.out)).trans HC2.out, below_drew1 (Below.refl w8.heap.size w8)⟩ (fun hHeld => ?_)
                  refine pure_ (i := 0) (N := some 150) (v := ?_) (a' := ?_) #[true, false, false, false, false, false, false, false, false, false, false, false, false, false, false, false, false, false, false, false, false] rfl rfl (by kernel_rfl) (fun _ _ _ h => h) (Or.inl ⟨by rfl, ?_⟩) ?_ ?_
                  rotate_left
                  · intro w'
                    go_simp
                    with_reducible rfl
                  rotate_left
                  · simp only [Act.put, List.setIfInBounds_toArray, List.set_cons_zero, List.set_cons_succ, i64_w, i32_w]
                    rfl
                  refine pure_ (i := 1) (N := some 151) (v := ?_) (a' := ?_) #[true, true, false, false, false, false, false, false, false, false, false, false, false, false, false, false, false, false, false, false, false] rfl rfl (by kernel_rfl) (fun _ _ _ h => h) (Or.inl ⟨by rfl, ?_⟩) ?_ ?_
                  rotate_left
                  · intro w'
                    go_simp
                    with_reducible rfl
                  rotate_left
                  · simp only [Act.put, List.setIfInBounds_toArray, List.set_cons_zero, List.set_cons_succ, i64_w, i32_w]
                    rfl
                  refine pure_ (i := 2) (N := some 152) (v := ?_) (a' := ?_) #[true, true, true, false, false, false, false, false, false, false, false, false, false, false, false, false, false, false, false, false, false] rfl rfl (by kernel_rfl) (fun _ _ _ h => h) (Or.inl ⟨by rfl, ?_⟩) ?_ ?_
                  rotate_left
                  · intro w'
                    go_simp
                    with_reducible rfl
                  rotate_left
                  · simp only [Act.put, List.setIfInBounds_toArray, List.set_cons_zero, List.set_cons_succ, i64_w, i32_w]
                    rfl
                  refine pure_ (i := 3) (N := some 153) (v := ?_) (a' := ?_) #[true, true, true, true, false, false, false, false, false, false, false, false, false, false, false, false, false, false, false, false, false] rfl rfl (by kernel_rfl) (fun _ _ _ h => h) (Or.inl ⟨by rfl, ?_⟩) ?_ ?_
                  rotate_left
                  · intro w'
                    go_simp
                    with_reducible rfl
                  rotate_left
                  · simp only [Act.put, List.setIfInBounds_toArray, List.set_cons_zero, List.set_cons_succ, i64_w, i32_w]
                    rfl
                  refine pure_ (i := 5) (N := some 155) (v := ?_) (a' := ?_) #[true, true, true, true, false, true, false, false, false, false, false, false, false, false, false, false, false, false, false, false, false] rfl rfl (by kernel_rfl) (fun _ _ _ h => h) (Or.inl ⟨by rfl, ?_⟩) ?_ ?_
                  rotate_left
                  · intro w'
                    go_simp
                    with_reducible rfl
                  rotate_left
                  · simp only [Act.put, List.setIfInBounds_toArray, List.set_cons_zero, List.set_cons_succ, i64_w, i32_w]
                    rfl
                  refine pure_ (i := 6) (N := some 156) (v := ?_) (a' := ?_) #[true, true, true, true, false, true, true, false, false, false, false, false, false, false, false, false, false, false, false, false, false] rfl rfl (by kernel_rfl) (fun _ _ _ h => h) (Or.inl ⟨by rfl, ?_⟩) ?_ ?_
                  rotate_left
                  · intro w'
                    go_simp
                    with_reducible rfl
                  rotate_left
                  · simp only [Act.put, List.setIfInBounds_toArray, List.set_cons_zero, List.set_cons_succ, i64_w, i32_w]
                    rfl
                  refine pure_ (i := 7) (N := some 157) (v := ?_) (a' := ?_) #[true, true, true, true, false, true, true, true, false, false, false, false, false, false, false, false, false, false, false, false, false] rfl rfl (by kernel_rfl) (fun _ _ _ h => h) (Or.inl ⟨by rfl, ?_⟩) ?_ ?_
                  rotate_left
                  · intro w'
                    go_simp
                    with_reducible rfl
                  rotate_left
                  · simp only [Act.put, List.setIfInBounds_toArray, List.set_cons_zero, List.set_cons_succ, i64_w, i32_w]
                    rfl
                  refine take_ (i := 4) (N := some 154) (v := ?_) (a' := ?_) #[true, true, true, true, true, true, true, true, false, false, false, false, false, false, false, false, false, false, false, false, false] rfl rfl (by kernel_rfl) (fun _ _ _ h => h) (Or.inl ⟨by rfl, ?_⟩) hHeld ?_ ?_
                  rotate_left
                  · rintro w' ⟨s0, s1, s2, s3⟩
                    have d2_ := (blk_cell s0 2).trans (show _ = some (Value.string b0) from rfl)
                    go_simp
                    with_reducible rfl
                  rotate_left
                  · simp only [Act.put, List.setIfInBounds_toArray, List.set_cons_zero, List.set_cons_succ, i64_w, i32_w]
                    rfl
                  refine take_ (i := 8) (N := some 158) (v := ?_) (a' := ?_) #[true, true, true, true, true, true, true, true, true, false, false, false, false, false, false, false, false, false, false, false, false] rfl rfl (by kernel_rfl) (fun _ _ _ h => h) (Or.inl ⟨by rfl, ?_⟩) hHeld ?_ ?_
                  rotate_left
                  · rintro w' ⟨s0, s1, s2, s3⟩
                    go_simp
                    with_reducible rfl
                  rotate_left
                  · simp only [Act.put, List.setIfInBounds_toArray, List.set_cons_zero, List.set_cons_succ, i64_w, i32_w]
                    rfl
                  refine pure_ (i := 9) (N := some 159) (v := ?_) (a' := ?_) #[true, true, true, true, true, true, true, true, true, true, false, false, false, false, false, false, false, false, false, false, false] rfl rfl (by kernel_rfl) (fun _ _ _ h => h) (Or.inl ⟨by rfl, ?_⟩) ?_ ?_
                  rotate_left
                  · intro w'
                    go_simp
                    with_reducible rfl
                  rotate_left
                  · simp only [Act.put, List.setIfInBounds_toArray, List.set_cons_zero, List.set_cons_succ, i64_w, i32_w]
                    rfl
                  refine pure_ (i := 10) (N := some 160) (v := ?_) (a' := ?_) #[true, true, true, true, true, true, true, true, true, true, true, false, false, false, false, false, false, false, false, false, false] rfl rfl (by kernel_rfl) (fun _ _ _ h => h) (Or.inl ⟨by rfl, ?_⟩) ?_ ?_
                  rotate_left
                  · intro w'
                    go_simp
                    with_reducible rfl
                  rotate_left
                  · simp only [Act.put, List.setIfInBounds_toArray, List.set_cons_zero, List.set_cons_succ, i64_w, i32_w]
                    rfl
                  refine pure_ (i := 11) (N := some 161) (v := ?_) (a' := ?_) #[true, true, true, true, true, true, true, true, true, true, true, true, false, false, false, false, false, false, false, false, false] rfl rfl (by kernel_rfl) (fun _ _ _ h => h) (Or.inl ⟨by rfl, ?_⟩) ?_ ?_
                  rotate_left
                  · intro w'
                    go_simp
                    with_reducible rfl
                  rotate_left
                  · simp only [Act.put, List.setIfInBounds_toArray, List.set_cons_zero, List.set_cons_succ, i64_w, i32_w]
                    rfl
                  refine pure_ (i := 12) (N := some 162) (v := ?_) (a' := ?_) #[true, true, true, true, true, true, true, true, true, true, true, true, true, false, false, false, false, false, false, false, false] rfl rfl (by kernel_rfl) (fun _ _ _ h => h) (Or.inl ⟨by rfl, ?_⟩) ?_ ?_
                  rotate_left
                  · intro w'
                    go_simp
                    with_reducible rfl
                  rotate_left
                  · simp only [Act.put, List.setIfInBounds_toArray, List.set_cons_zero, List.set_cons_succ, i64_w, i32_w]
                    rfl
                  refine pure_ (i := 14) (N := some 164) (v := ?_) (a' := ?_) #[true, true, true, true, true, true, true, true, true, true, true, true, true, false, true, false, false, false, false, false, false] rfl rfl (by kernel_rfl) (fun _ _ _ h => h) (Or.inl ⟨by rfl, ?_⟩) ?_ ?_
                  rotate_left
                  · intro w'
                    go_simp
                    with_reducible rfl
                  rotate_left
                  · simp only [Act.put, List.setIfInBounds_toArray, List.set_cons_zero, List.set_cons_succ, i64_w, i32_w]
                    rfl
                  refine pure_ (i := 15) (N := some 165) (v := ?_) (a' := ?_) #[true, true, true, true, true, true, true, true, true, true, true, true, true, false, true, true, false, false, false, false, false] rfl rfl (by kernel_rfl) (fun _ _ _ h => h) (Or.inl ⟨by rfl, ?_⟩) ?_ ?_
                  rotate_left
                  · intro w'
                    go_simp
                    with_reducible rfl
                  rotate_left
                  · simp only [Act.put, List.setIfInBounds_toArray, List.set_cons_zero, List.set_cons_succ, i64_w, i32_w]
                    rfl
                  refine pure_ (i := 16) (N := some 166) (v := ?_) (a' := ?_) #[true, true, true, true, true, true, true, true, true, true, true, true, true, false, true, true, true, false, false, false, false] rfl rfl (by kernel_rfl) (fun _ _ _ h => h) (Or.inl ⟨by rfl, ?_⟩) ?_ ?_
                  rotate_left
                  · intro w'
                    go_simp
                    with_reducible rfl
                  rotate_left
                  · simp only [Act.put, List.setIfInBounds_toArray, List.set_cons_zero, List.set_cons_succ, i64_w, i32_w]
                    rfl
                  refine take_ (i := 13) (N := some 163) (v := ?_) (a' := ?_) #[true, true, true, true, true, true, true, true, true, true, true, true, true, true, true, true, true, false, false, false, false] rfl rfl (by kernel_rfl) (fun _ _ _ h => h) (Or.inl ⟨by rfl, ?_⟩) hHeld ?_ ?_
                  rotate_left
                  · rintro w' ⟨s0, s1, s2, s3⟩
                    have d2_ := (blk_cell s0 3).trans (show _ = some (Value.slice Q nx q) from rfl)
                    go_simp
                    with_reducible rfl
                  rotate_left
                  · simp only [Act.put, List.setIfInBounds_toArray, List.set_cons_zero, List.set_cons_succ, i64_w, i32_w]
                    rfl
                  refine take_ (i := 17) (N := some 167) (v := ?_) (a' := ?_) #[true, true, true, true, true, true, true, true, true, true, true, true, true, true, true, true, true, true, false, false, false] rfl rfl (by kernel_rfl) (fun _ _ _ h => h) (Or.inl ⟨by rfl, ?_⟩) hHeld ?_ ?_
                  rotate_left
                  · rintro w' ⟨s0, s1, s2, s3⟩
                    go_simp
                    with_reducible rfl
                  rotate_left
                  · simp only [Act.put, List.setIfInBounds_toArray, List.set_cons_zero, List.set_cons_succ, i64_w, i32_w]
                    rfl
                  refine one_ (i := 18) (N := some 168) #[true, true, true, true, true, true, true, true, true, true, true, true, true, true, true, true, true, true, true, false, false] rfl rfl (by kernel_rfl) (by decide) (fun K hK => ?_)
                  refine goes_ Try.func39 (by kernel_rfl) rfl #[.slice Q nx q, .slice A7 R1.length c7] (by rfl) rfl rfl (by first | rfl | (simp; done) | (simp only [List.map_toArray, List.map_cons, List.map_nil]; rfl)) ?_
                  with_reducible refine (strs_is Q q A7 c7 nx R1.length X R1 _ HXN.out rfl HEQ.out _ (Kd.C_below HQX.out.2 hHeld.2.2.2) (HXN.out ▸ HQX.out.1) (Kd.C_below HR1.out.2 hHeld.2.2.2) HR1.out.1).mono ?_
                  rintro e w9 ⟨rfl, hb⟩
                  refine ⟨_, rfl, ?_⟩
                  refine hK.out _ _ ⟨blk_below hHeld.1 (hb), ((hb).cell (p := ⟨g1, m, none⟩) (World.block_lt_of_cell? _ ⟨g1, m, none⟩ hHeld.2.1)).trans hHeld.2.1, ((hb).cell (p := ⟨g2, m, none⟩) (World.block_lt_of_cell? _ ⟨g2, m, none⟩ hHeld.2.2.1)).trans hHeld.2.2.1, below_step hHeld.2.2.2 (hb)⟩ (fun hHeld => ?_)
                  clear hK K
                  refine norm_ (a' := ?_) ?_ ?_
                  rotate_left
                  · show Act.put _ (some 168) _ = _
                    simp only [Act.put, List.setIfInBounds_toArray, List.set_cons_zero, List.set_cons_succ, i64_w, i32_w]
                    rfl
                  refine pure_ (i := 19) (N := some 169) (v := ?_) (a' := ?_) #[true, true, true, true, true, true, true, true, true, true, true, true, true, true, true, true, true, true, true, true, false] rfl rfl (by kernel_rfl) (fun _ _ _ h => h) (Or.inl ⟨by rfl, ?_⟩) ?_ ?_
                  rotate_left
                  · intro w'
                    go_simp
                    with_reducible rfl
                  rotate_left
                  · simp only [Act.put, List.setIfInBounds_toArray, List.set_cons_zero, List.set_cons_succ, i64_w, i32_w]
                    rfl
                  refine pure_ (i := 20) (N := some 21) (v := ?_) (a' := ?_) #[true, true, true, true, true, true, true, true, true, true, true, true, true, true, true, true, true, true, true, true, true] rfl rfl (by kernel_rfl) (fun _ _ _ h => h) (Or.inl ⟨by rfl, ?_⟩) ?_ ?_
                  rotate_left
                  · intro w'
                    go_simp
                    with_reducible rfl
                  rotate_left
                  · simp only [Act.put, List.setIfInBounds_toArray, List.set_cons_zero, List.set_cons_succ, i64_w, i32_w]
                    rfl
                  refine done_ (by kernel_rfl) ?_
                  obtain ⟨w8, rfl⟩ : ∃ w8, w8 = w9 := ⟨_, rfl⟩
                  have n1 := Aside0.mk (below_step HW7.out hHeld.2.2.2)
                  have n2 := Aside0.mk hHeld.1
                  have n3 := Aside0.mk (((hHeld.2.2.2).cell (p := ⟨g1, i, none⟩) (World.block_lt_of_cell? _ _ HC3.out)).trans HC3.out)
                  have n4 := Aside0.mk (((hHeld.2.2.2).cell (p := ⟨g2, i, none⟩) (World.block_lt_of_cell? _ _ HC4.out)).trans HC4.out)
                  have n5 := Aside0.mk (And.intro HQX.out.1 (Kd.C_below HQX.out.2 hHeld.2.2.2))
                  have n6 := Aside0.mk (And.intro HR0.out.1 (Kd.C_below HR0.out.2 hHeld.2.2.2))
                  clear HW7 HBX HC1 HC2 HC3 HC4 HQX HR0 HR1 hHeld
                  obtain ⟨HW7, HBX, HC3, HC4, HQX, HR0⟩ := And.intro n1 (And.intro n2 (And.intro n3 (And.intro n4 (And.intro n5 n6))))
                  clear n1 n2 n3 n4 n5 n6
                  clear HC3 HC4 HQX HR0 HEQ hs1 hs2
                  go_wp2_with (fail)
                  refine start_ (n := 30) (S := fun w' => w'.heap[kx]? = some (.cells #[.pointer none, .int .i64 0, .string b0, .slice Q nx q, .int .i64 0, .int .i64 0] 92 (0, 0)) ∧ Below w8.heap.size w8 w') (ds := []) #[false, false, false, false, false, false, false, false, false, false, false, false, false, false, false, false, false, false, false, false, false, false, false, false, false, false, false, false, false, false] (by kernel_rfl) rfl rfl ⟨blk_below HBX.out (below_drew1 (Below.refl w8.heap.size w8)), below_drew1 (Below.refl w8.heap.size w8)⟩ (fun hHeld => ?_)
                  refine pure_ (i := 0) (N := some 170) (v := ?_) (a' := ?_) #[true, false, false, false, false, false, false, false, false, false, false, false, false, false, false, false, false, false, false, false, false, false, false, false, false, false, false, false, false, false] rfl rfl (by kernel_rfl) (fun _ _ _ h => h) (Or.inl ⟨by rfl, ?_⟩) ?_ ?_
                  rotate_left
                  · intro w'
                    go_simp
                    with_reducible rfl
                  rotate_left
                  · simp only [Act.put, List.setIfInBounds_toArray, List.set_cons_zero, List.set_cons_succ, i64_w, i32_w]
                    rfl
                  refine pure_ (i := 1) (N := some 171) (v := ?_) (a' := ?_) #[true, true, false, false, false, false, false, false, false, false, false, false, false, false, false, false, false, false, false, false, false, false, false, false, false, false, false, false, false, false] rfl rfl (by kernel_rfl) (fun _ _ _ h => h) (Or.inl ⟨by rfl, ?_⟩) ?_ ?_
                  rotate_left
                  · intro w'
                    go_simp
                    with_reducible rfl
                  rotate_left
                  · simp only [Act.put, List.setIfInBounds_toArray, List.set_cons_zero, List.set_cons_succ, i64_w, i32_w]
                    rfl
                  refine pure_ (i := 2) (N := some 172) (v := undef) (a' := ?_) #[true, true, true, false, false, false, false, false, false, false, false, false, false, false, false, false, false, false, false, false, false, false, false, false, false, false, false, false, false, false] rfl rfl (by kernel_rfl) (fun _ _ _ h => h) (Or.inr ⟨by rfl, rfl⟩) ?_ ?_
                  rotate_left
                  · simp only [Act.put, List.setIfInBounds_toArray, List.set_cons_zero, List.set_cons_succ, i64_w, i32_w]
                    rfl
                  refine pure_ (i := 3) (N := some 173) (v := undef) (a' := ?_) #[true, true, true, true, false, false, false, false, false, false, false, false, false, false, false, false, false, false, false, false, false, false, false, false, false, false, false, false, false, false] rfl rfl (by kernel_rfl) (fun _ _ _ h => h) (Or.inr ⟨by rfl, rfl⟩) ?_ ?_
                  rotate_left
                  · simp only [Act.put, List.setIfInBounds_toArray, List.set_cons_zero, List.set_cons_succ, i64_w, i32_w]
                    rfl
                  refine pure_ (i := 4) (N := some 174) (v := undef) (a' := ?_) #[true, true, true, true, true, false, false, false, false, false, false, false, false, false, false, false, false, false, false, false, false, false, false, false, false, false, false, false, false, false] rfl rfl (by kernel_rfl) (fun _ _ _ h => h) (Or.inr ⟨by rfl, rfl⟩) ?_ ?_
                  rotate_left
                  · simp only [Act.put, List.setIfInBounds_toArray, List.set_cons_zero, List.set_cons_succ, i64_w, i32_w]
                    rfl
                  refine pure_ (i := 5) (N := some 175) (v := undef) (a' := ?_) #[true, true, true, true, true, true, false, false, false, false, false, false, false, false, false, false, false, false, false, false, false, false, false, false, false, false, false, false, false, false] rfl rfl (by kernel_rfl) (fun _ _ _ h => h) (Or.inr ⟨by rfl, rfl⟩) ?_ ?_
                  rotate_left
                  · simp only [Act.put, List.setIfInBounds_toArray, List.set_cons_zero, List.set_cons_succ, i64_w, i32_w]
                    rfl
                  refine pure_ (i := 6) (N := some 176) (v := undef) (a' := ?_) #[true, true, true, true, true, true, true, false, false, false, false, false, false, false, false, false, false, false, false, false, false, false, false, false, false, false, false, false, false, false] rfl rfl (by kernel_rfl) (fun _ _ _ h => h) (Or.inr ⟨by rfl, rfl⟩) ?_ ?_
                  rotate_left
                  · simp only [Act.put, List.setIfInBounds_toArray, List.set_cons_zero, List.set_cons_succ, i64_w, i32_w]
                    rfl
                  refine pure_ (i := 7) (N := some 177) (v := undef) (a' := ?_) #[true, true, true, true, true, true, true, true, false, false, false, false, false, false, false, false, false, false, false, false, false, false, false, false, false, false, false, false, false, false] rfl rfl (by kernel_rfl) (fun _ _ _ h => h) (Or.inr ⟨by rfl, rfl⟩) ?_ ?_
                  rotate_left
                  · simp only [Act.put, List.setIfInBounds_toArray, List.set_cons_zero, List.set_cons_succ, i64_w, i32_w]
                    rfl
                  refine pure_ (i := 8) (N := some 178) (v := undef) (a' := ?_) #[true, true, true, true, true, true, true, true, true, false, false, false, false, false, false, false, false, false, false, false, false, false, false, false, false, false, false, false, false, false] rfl rfl (by kernel_rfl) (fun _ _ _ h => h) (Or.inr ⟨by rfl, rfl⟩) ?_ ?_
                  rotate_left
                  · simp only [Act.put, List.setIfInBounds_toArray, List.set_cons_zero, List.set_cons_succ, i64_w, i32_w]
                    rfl
                  refine pure_ (i := 9) (N := some 179) (v := undef) (a' := ?_) #[true, true, true, true, true, true, true, true, true, true, false, false, false, false, false, false, false, false, false, false, false, false, false, false, false, false, false, false, false, false] rfl rfl (by kernel_rfl) (fun _ _ _ h => h) (Or.inr ⟨by rfl, rfl⟩) ?_ ?_
                  rotate_left
                  · simp only [Act.put, List.setIfInBounds_toArray, List.set_cons_zero, List.set_cons_succ, i64_w, i32_w]
                    rfl
                  refine pure_ (i := 10) (N := some 180) (v := undef) (a' := ?_) #[true, true, true, true, true, true, true, true, true, true, true, false, false, false, false, false, false, false, false, false, false, false, false, false, false, false, false, false, false, false] rfl rfl (by kernel_rfl) (fun _ _ _ h => h) (Or.inr ⟨by rfl, rfl⟩) ?_ ?_
                  rotate_left
                  · simp only [Act.put, List.setIfInBounds_toArray, List.set_cons_zero, List.set_cons_succ, i64_w, i32_w]
                    rfl
                  refine pure_ (i := 11) (N := some 181) (v := undef) (a' := ?_) #[true, true, true, true, true, true, true, true, true, true, true, true, false, false, false, false, false, false, false, false, false, false, false, false, false, false, false, false, false, false] rfl rfl (by kernel_rfl) (fun _ _ _ h => h) (Or.inr ⟨by rfl, rfl⟩) ?_ ?_
                  rotate_left
                  · simp only [Act.put, List.setIfInBounds_toArray, List.set_cons_zero, List.set_cons_succ, i64_w, i32_w]
                    rfl
                  refine pure_ (i := 12) (N := some 182) (v := undef) (a' := ?_) #[true, true, true, true, true, true, true, true, true, true, true, true, true, false, false, false, false, false, false, false, false, false, false, false, false, false, false, false, false, false] rfl rfl (by kernel_rfl) (fun _ _ _ h => h) (Or.inr ⟨by rfl, rfl⟩) ?_ ?_
                  rotate_left
                  · simp only [Act.put, List.setIfInBounds_toArray, List.set_cons_zero, List.set_cons_succ, i64_w, i32_w]
                    rfl
                  refine pure_ (i := 13) (N := some 183) (v := undef) (a' := ?_) #[true, true, true, true, true, true, true, true, true, true, true, true, true, true, false, false, false, false, false, false, false, false, false, false, false, false, false, false, false, false] rfl rfl (by kernel_rfl) (fun _ _ _ h => h) (Or.inr ⟨by rfl, rfl⟩) ?_ ?_
                  rotate_left
                  · simp only [Act.put, List.setIfInBounds_toArray, List.set_cons_zero, List.set_cons_succ, i64_w, i32_w]
                    rfl
                  refine pure_ (i := 14) (N := some 184) (v := undef) (a' := ?_) #[true, true, true, true, true, true, true, true, true, true, true, true, true, true, true, false, false, false, false, false, false, false, false, false, false, false, false, false, false, false] rfl rfl (by kernel_rfl) (fun _ _ _ h => h) (Or.inr ⟨by rfl, rfl⟩) ?_ ?_
                  rotate_left
                  · simp only [Act.put, List.setIfInBounds_toArray, List.set_cons_zero, List.set_cons_succ, i64_w, i32_w]
                    rfl
                  refine pure_ (i := 15) (N := some 185) (v := undef) (a' := ?_) #[true, true, true, true, true, true, true, true, true, true, true, true, true, true, true, true, false, false, false, false, false, false, false, false, false, false, false, false, false, false] rfl rfl (by kernel_rfl) (fun _ _ _ h => h) (Or.inr ⟨by rfl, rfl⟩) ?_ ?_
                  rotate_left
                  · simp only [Act.put, List.setIfInBounds_toArray, List.set_cons_zero, List.set_cons_succ, i64_w, i32_w]
                    rfl
                  refine pure_ (i := 16) (N := some 186) (v := undef) (a' := ?_) #[true, true, true, true, true, true, true, true, true, true, true, true, true, true, true, true, true, false, false, false, false, false, false, false, false, false, false, false, false, false] rfl rfl (by kernel_rfl) (fun _ _ _ h => h) (Or.inr ⟨by rfl, rfl⟩) ?_ ?_
                  rotate_left
                  · simp only [Act.put, List.setIfInBounds_toArray, List.set_cons_zero, List.set_cons_succ, i64_w, i32_w]
                    rfl
                  refine pure_ (i := 17) (N := some 187) (v := undef) (a' := ?_) #[true, true, true, true, true, true, true, true, true, true, true, true, true, true, true, true, true, true, false, false, false, false, false, false, false, false, false, false, false, false] rfl rfl (by kernel_rfl) (fun _ _ _ h => h) (Or.inr ⟨by rfl, rfl⟩) ?_ ?_
                  rotate_left
                  · simp only [Act.put, List.setIfInBounds_toArray, List.set_cons_zero, List.set_cons_succ, i64_w, i32_w]
                    rfl
                  refine pure_ (i := 18) (N := some 188) (v := undef) (a' := ?_) #[true, true, true, true, true, true, true, true, true, true, true, true, true, true, true, true, true, true, true, false, false, false, false, false, false, false, false, false, false, false] rfl rfl (by kernel_rfl) (fun _ _ _ h => h) (Or.inr ⟨by rfl, rfl⟩) ?_ ?_
                  rotate_left
                  · simp only [Act.put, List.setIfInBounds_toArray, List.set_cons_zero, List.set_cons_succ, i64_w, i32_w]
                    rfl
                  refine pure_ (i := 19) (N := some 189) (v := undef) (a' := ?_) #[true, true, true, true, true, true, true, true, true, true, true, true, true, true, true, true, true, true, true, true, false, false, false, false, false, false, false, false, false, false] rfl rfl (by kernel_rfl) (fun _ _ _ h => h) (Or.inr ⟨by rfl, rfl⟩) ?_ ?_
                  rotate_left
                  · simp only [Act.put, List.setIfInBounds_toArray, List.set_cons_zero, List.set_cons_succ, i64_w, i32_w]
                    rfl
                  refine pure_ (i := 20) (N := some 190) (v := undef) (a' := ?_) #[true, true, true, true, true, true, true, true, true, true, true, true, true, true, true, true, true, true, true, true, true, false, false, false, false, false, false, false, false, false] rfl rfl (by kernel_rfl) (fun _ _ _ h => h) (Or.inr ⟨by rfl, rfl⟩) ?_ ?_
                  rotate_left
                  · simp only [Act.put, List.setIfInBounds_toArray, List.set_cons_zero, List.set_cons_succ, i64_w, i32_w]
                    rfl
                  refine pure_ (i := 21) (N := some 191) (v := undef) (a' := ?_) #[true, true, true, true, true, true, true, true, true, true, true, true, true, true, true, true, true, true, true, true, true, true, false, false, false, false, false, false, false, false] rfl rfl (by kernel_rfl) (fun _ _ _ h => h) (Or.inr ⟨by rfl, rfl⟩) ?_ ?_
                  rotate_left
                  · simp only [Act.put, List.setIfInBounds_toArray, List.set_cons_zero, List.set_cons_succ, i64_w, i32_w]
                    rfl
                  refine pure_ (i := 22) (N := some 192) (v := undef) (a' := ?_) #[true, true, true, true, true, true, true, true, true, true, true, true, true, true, true, true, true, true, true, true, true, true, true, false, false, false, false, false, false, false] rfl rfl (by kernel_rfl) (fun _ _ _ h => h) (Or.inr ⟨by rfl, rfl⟩) ?_ ?_
                  rotate_left
                  · simp only [Act.put, List.setIfInBounds_toArray, List.set_cons_zero, List.set_cons_succ, i64_w, i32_w]
                    rfl
                  refine pure_ (i := 23) (N := some 193) (v := undef) (a' := ?_) #[true, true, true, true, true, true, true, true, true, true, true, true, true, true, true, true, true, true, true, true, true, true, true, true, false, false, false, false, false, false] rfl rfl (by kernel_rfl) (fun _ _ _ h => h) (Or.inr ⟨by rfl, rfl⟩) ?_ ?_
                  rotate_left
                  · simp only [Act.put, List.setIfInBounds_toArray, List.set_cons_zero, List.set_cons_succ, i64_w, i32_w]
                    rfl
                  refine pure_ (i := 24) (N := some 194) (v := undef) (a' := ?_) #[true, true, true, true, true, true, true, true, true, true, true, true, true, true, true, true, true, true, true, true, true, true, true, true, true, false, false, false, false, false] rfl rfl (by kernel_rfl) (fun _ _ _ h => h) (Or.inr ⟨by rfl, rfl⟩) ?_ ?_
                  rotate_left
                  · simp only [Act.put, List.setIfInBounds_toArray, List.set_cons_zero, List.set_cons_succ, i64_w, i32_w]
                    rfl
                  refine pure_ (i := 25) (N := some 195) (v := ?_) (a' := ?_) #[true, true, true, true, true, true, true, true, true, true, true, true, true, true, true, true, true, true, true, true, true, true, true, true, true, true, false, false, false, false] rfl rfl (by kernel_rfl) (fun _ _ _ h => h) (Or.inl ⟨by rfl, ?_⟩) ?_ ?_
                  rotate_left
                  · intro w'
                    go_simp
                    with_reducible rfl
                  rotate_left
                  · simp only [Act.put, List.setIfInBounds_toArray, List.set_cons_zero, List.set_cons_succ, i64_w, i32_w]
                    rfl
                  refine pure_ (i := 26) (N := some 196) (v := ?_) (a' := ?_) #[true, true, true, true, true, true, true, true, true, true, true, true, true, true, true, true, true, true, true, true, true, true, true, true, true, true, true, false, false, false] rfl rfl (by kernel_rfl) (fun _ _ _ h => h) (Or.inl ⟨by rfl, ?_⟩) ?_ ?_
                  rotate_left
                  · intro w'
                    go_simp
                    with_reducible rfl
                  rotate_left
                  · simp only [Act.put, List.setIfInBounds_toArray, List.set_cons_zero, List.set_cons_succ, i64_w, i32_w]
                    rfl
                  refine one_ (i := 27) (N := some 197) #[true, true, true, true, true, true, true, true, true, true, true, true, true, true, true, true, true, true, true, true, true, true, true, true, true, true, true, true, false, false] rfl rfl (by kernel_rfl) (by decide) (fun K hK => ?_)
                  refine goes_ Try.func31 (by kernel_rfl) rfl #[] (by rfl) rfl rfl (by first | rfl | (simp; done) | (simp only [List.map_toArray, List.map_cons, List.map_nil]; rfl)) ?_
                  with_reducible refine (Tp.awake_calls _).mono ?_
                  rintro e w10 ⟨rfl, hb⟩
                  refine ⟨_, rfl, ?_⟩
                  refine hK.out _ _ ⟨blk_below hHeld.1 (hb), below_step hHeld.2 (hb)⟩ (fun hHeld => ?_)
                  clear hK K
                  refine norm_ (a' := ?_) ?_ ?_
                  rotate_left
                  · show Act.put _ (some 197) _ = _
                    simp only [Act.put, List.setIfInBounds_toArray, List.set_cons_zero, List.set_cons_succ, i64_w, i32_w]
                    rfl
                  refine pure_ (i := 28) (N := some 198) (v := ?_) (a' := ?_) #[true, true, true, true, true, true, true, true, true, true, true, true, true, true, true, true, true, true, true, true, true, true, true, true, true, true, true, true, true, false] rfl rfl (by kernel_rfl) (fun _ _ _ h => h) (Or.inl ⟨by rfl, ?_⟩) ?_ ?_
                  rotate_left
                  · intro w'
                    go_simp
                    with_reducible rfl
                  rotate_left
                  · simp only [Act.put, List.setIfInBounds_toArray, List.set_cons_zero, List.set_cons_succ, i64_w, i32_w]
                    rfl
                  refine pure_ (i := 29) (N := some 6) (v := ?_) (a' := ?_) #[true, true, true, true, true, true, true, true, true, true, true, true, true, true, true, true, true, true, true, true, true, true, true, true, true, true, true, true, true, true] rfl rfl (by kernel_rfl) (fun _ _ _ h => h) (Or.inl ⟨by rfl, ?_⟩) ?_ ?_
                  rotate_left
                  · intro w'
                    go_simp
                    with_reducible rfl
                  rotate_left
                  · simp only [Act.put, List.setIfInBounds_toArray, List.set_cons_zero, List.set_cons_succ, i64_w, i32_w]
                    rfl
                  refine done_ (by kernel_rfl) ?_
                  go_wp2_with (fail)
                  go_ret
                  exact ⟨rfl, below_step HW7.out hHeld.2⟩
                · as_aux_lemma =>
                  have hs1 : (b0 == B1) = true := str_beq hbb
                  have hs2 : (b0.toList == B1.toList) = true := by rw [hbb]; exact beq_self_eq_true _
                  have hs3 : (b0.toList == b0.toList) = true := beq_self_eq_true _
                  have hs4 : (b0 == b0) = true := str_beq rfl
                  have HEQ := Aside0.mk hrr
                  have HOLD := Aside0.mk (show ∃ j, kept ≤ j ∧ j ≤ R0.length ∧ X = R0.take j by
                    rcases HCS.out with ⟨h1, h2⟩ | ⟨_, h⟩
                    · exact absurd (show eqSt X R1 = true by rw [h2]; exact eqSt_self _) (by rw [hrr]; decide)
                    · exact h)
                  have HB00 := Aside0.mk (show B0 = b0 by
                    rcases HCS.out with ⟨h1, h2⟩ | ⟨h, _⟩
                    · exact absurd (show eqSt X R1 = true by rw [h2]; exact eqSt_self _) (by rw [hrr]; decide)
                    · exact h.symm)
                  rw [HB00.out] at HC3
                  obtain ⟨jj, j1, j2, j3⟩ := HOLD.out
                  have HJT := Aside0.mk (And.intro j1 j2)
                  have HXT := Aside0.mk j3
                  clear HOLD HB00 j1 j2 j3 HCS
                  clear hbb hrr
                  go_wp2_with (fail)
                  rw [HWM.out]
                  refine start_ (n := 21) (S := fun w' => w'.heap[kx]? = some (.cells #[.pointer none, .int .i64 0, .string b0, .slice Q nx q, .int .i64 0, .int .i64 0] 92 (0, 0)) ∧ w'.cell? ⟨g1, m, none⟩ = some (Value.string B1) ∧ w'.cell? ⟨g2, m, none⟩ = some (Value.slice A7 R1.length c7) ∧ Below w8.heap.size w8 w') (ds := []) #[false, false, false, false, false, false, false, false, false, false, false, false, false, false, false, false, false, false, false, false, false] (by kernel_rfl) rfl rfl ⟨blk_below HBX.out (below_drew1 (Below.refl w8.heap.size w8)), ((below_drew1 (Below.refl w8.heap.size w8)).cell (p := ⟨g1, m, none⟩) (World.block_lt_of_cell? _ ⟨g1, m, none⟩ HC1.out)).trans HC1.out, ((below_drew1 (Below.refl w8.heap.size w8)).cell (p := ⟨g2, m, none⟩) (World.block_lt_of_cell? _ ⟨g2, m, none⟩ HC2.out)).trans HC2.out, below_drew1 (Below.refl w8.heap.size w8)⟩ (fun hHeld => ?_)
                  refine pure_ (i := 0) (N := some 150) (v := ?_) (a' := ?_) #[true, false, false, false, false, false, false, false, false, false, false, false, false, false, false, false, false, false, false, false, false] rfl rfl (by kernel_rfl) (fun _ _ _ h => h) (Or.inl ⟨by rfl, ?_⟩) ?_ ?_
                  rotate_left
                  · intro w'
                    go_simp
                    with_reducible rfl
                  rotate_left
                  · simp only [Act.put, List.setIfInBounds_toArray, List.set_cons_zero, List.set_cons_succ, i64_w, i32_w]
                    rfl
                  refine pure_ (i := 1) (N := some 151) (v := ?_) (a' := ?_) #[true, true, false, false, false, false, false, false, false, false, false, false, false, false, false, false, false, false, false, false, false] rfl rfl (by kernel_rfl) (fun _ _ _ h => h) (Or.inl ⟨by rfl, ?_⟩) ?_ ?_
                  rotate_left
                  · intro w'
                    go_simp
                    with_reducible rfl
                  rotate_left
                  · simp only [Act.put, List.setIfInBounds_toArray, List.set_cons_zero, List.set_cons_succ, i64_w, i32_w]
                    rfl
                  refine pure_ (i := 2) (N := some 152) (v := ?_) (a' := ?_) #[true, true, true, false, false, false, false, false, false, false, false, false, false, false, false, false, false, false, false, false, false] rfl rfl (by kernel_rfl) (fun _ _ _ h => h) (Or.inl ⟨by rfl, ?_⟩) ?_ ?_
                  rotate_left
                  · intro w'
                    go_simp
                    with_reducible rfl
                  rotate_left
                  · simp only [Act.put, List.setIfInBounds_toArray, List.set_cons_zero, List.set_cons_succ, i64_w, i32_w]
                    rfl
                  refine pure_ (i := 3) (N := some 153) (v := ?_) (a' := ?_) #[true, true, true, true, false, false, false, false, false, false, false, false, false, false, false, false, false, false, false, false, false] rfl rfl (by kernel_rfl) (fun _ _ _ h => h) (Or.inl ⟨by rfl, ?_⟩) ?_ ?_
                  rotate_left
                  · intro w'
                    go_simp
                    with_reducible rfl
                  rotate_left
                  · simp only [Act.put, List.setIfInBounds_toArray, List.set_cons_zero, List.set_cons_succ, i64_w, i32_w]
                    rfl
                  refine pure_ (i := 5) (N := some 155) (v := ?_) (a' := ?_) #[true, true, true, true, false, true, false, false, false, false, false, false, false, false, false, false, false, false, false, false, false] rfl rfl (by kernel_rfl) (fun _ _ _ h => h) (Or.inl ⟨by rfl, ?_⟩) ?_ ?_
                  rotate_left
                  · intro w'
                    go_simp
                    with_reducible rfl
                  rotate_left
                  · simp only [Act.put, List.setIfInBounds_toArray, List.set_cons_zero, List.set_cons_succ, i64_w, i32_w]
                    rfl
                  refine pure_ (i := 6) (N := some 156) (v := ?_) (a' := ?_) #[true, true, true, true, false, true, true, false, false, false, false, false, false, false, false, false, false, false, false, false, false] rfl rfl (by kernel_rfl) (fun _ _ _ h => h) (Or.inl ⟨by rfl, ?_⟩) ?_ ?_
                  rotate_left
                  · intro w'
                    go_simp
                    with_reducible rfl
                  rotate_left
                  · simp only [Act.put, List.setIfInBounds_toArray, List.set_cons_zero, List.set_cons_succ, i64_w, i32_w]
                    rfl
                  refine pure_ (i := 7) (N := some 157) (v := ?_) (a' := ?_) #[true, true, true, true, false, true, true, true, false, false, false, false, false, false, false, false, false, false, false, false, false] rfl rfl (by kernel_rfl) (fun _ _ _ h => h) (Or.inl ⟨by rfl, ?_⟩) ?_ ?_
                  rotate_left
                  · intro w'
                    go_simp
                    with_reducible rfl
                  rotate_left
                  · simp only [Act.put, List.setIfInBounds_toArray, List.set_cons_zero, List.set_cons_succ, i64_w, i32_w]
                    rfl
                  refine take_ (i := 4) (N := some 154) (v := ?_) (a' := ?_) #[true, true, true, true, true, true, true, true, false, false, false, false, false, false, false, false, false, false, false, false, false] rfl rfl (by kernel_rfl) (fun _ _ _ h => h) (Or.inl ⟨by rfl, ?_⟩) hHeld ?_ ?_
                  rotate_left
                  · rintro w' ⟨s0, s1, s2, s3⟩
                    have d2_ := (blk_cell s0 2).trans (show _ = some (Value.string b0) from rfl)
                    go_simp
                    with_reducible rfl
                  rotate_left
                  · simp only [Act.put, List.setIfInBounds_toArray, List.set_cons_zero, List.set_cons_succ, i64_w, i32_w]
                    rfl
                  refine take_ (i := 8) (N := some 158) (v := ?_) (a' := ?_) #[true, true, true, true, true, true, true, true, true, false, false, false, false, false, false, false, false, false, false, false, false] rfl rfl (by kernel_rfl) (fun _ _ _ h => h) (Or.inl ⟨by rfl, ?_⟩) hHeld ?_ ?_
                  rotate_left
                  · rintro w' ⟨s0, s1, s2, s3⟩
                    go_simp
                    with_reducible rfl
                  rotate_left
                  · simp only [Act.put, List.setIfInBounds_toArray, List.set_cons_zero, List.set_cons_succ, i64_w, i32_w]
                    rfl
                  refine pure_ (i := 9) (N := some 159) (v := ?_) (a' := ?_) #[true, true, true, true, true, true, true, true, true, true, false, false, false, false, false, false, false, false, false, false, false] rfl rfl (by kernel_rfl) (fun _ _ _ h => h) (Or.inl ⟨by rfl, ?_⟩) ?_ ?_
                  rotate_left
                  · intro w'
                    go_simp
                    with_reducible rfl
                  rotate_left
                  · simp only [Act.put, List.setIfInBounds_toArray, List.set_cons_zero, List.set_cons_succ, i64_w, i32_w]
                    rfl
                  refine pure_ (i := 10) (N := some 160) (v := ?_) (a' := ?_) #[true, true, true, true, true, true, true, true, true, true, true, false, false, false, false, false, false, false, false, false, false] rfl rfl (by kernel_rfl) (fun _ _ _ h => h) (Or.inl ⟨by rfl, ?_⟩) ?_ ?_
                  rotate_left
                  · intro w'
                    go_simp
                    with_reducible rfl
                  rotate_left
                  · simp only [Act.put, List.setIfInBounds_toArray, List.set_cons_zero, List.set_cons_succ, i64_w, i32_w]
                    rfl
                  refine pure_ (i := 11) (N := some 161) (v := ?_) (a' := ?_) #[true, true, true, true, true, true, true, true, true, true, true, true, false, false, false, false, false, false, false, false, false] rfl rfl (by kernel_rfl) (fun _ _ _ h => h) (Or.inl ⟨by rfl, ?_⟩) ?_ ?_
                  rotate_left
                  · intro w'
                    go_simp
                    with_reducible rfl
                  rotate_left
                  · simp only [Act.put, List.setIfInBounds_toArray, List.set_cons_zero, List.set_cons_succ, i64_w, i32_w]
                    rfl
                  refine pure_ (i := 12) (N := some 162) (v := ?_) (a' := ?_) #[true, true, true, true, true, true, true, true, true, true, true, true, true, false, false, false, false, false, false, false, false] rfl rfl (by kernel_rfl) (fun _ _ _ h => h) (Or.inl ⟨by rfl, ?_⟩) ?_ ?_
                  rotate_left
                  · intro w'
                    go_simp
                    with_reducible rfl
                  rotate_left
                  · simp only [Act.put, List.setIfInBounds_toArray, List.set_cons_zero, List.set_cons_succ, i64_w, i32_w]
                    rfl
                  refine pure_ (i := 14) (N := some 164) (v := ?_) (a' := ?_) #[true, true, true, true, true, true, true, true, true, true, true, true, true, false, true, false, false, false, false, false, false] rfl rfl (by kernel_rfl) (fun _ _ _ h => h) (Or.inl ⟨by rfl, ?_⟩) ?_ ?_
                  rotate_left
                  · intro w'
                    go_simp
                    with_reducible rfl
                  rotate_left
                  · simp only [Act.put, List.setIfInBounds_toArray, List.set_cons_zero, List.set_cons_succ, i64_w, i32_w]
                    rfl
                  refine pure_ (i := 15) (N := some 165) (v := ?_) (a' := ?_) #[true, true, true, true, true, true, true, true, true, true, true, true, true, false, true, true, false, false, false, false, false] rfl rfl (by kernel_rfl) (fun _ _ _ h => h) (Or.inl ⟨by rfl, ?_⟩) ?_ ?_
                  rotate_left
                  · intro w'
                    go_simp
                    with_reducible rfl
                  rotate_left
                  · simp only [Act.put, List.setIfInBounds_toArray, List.set_cons_zero, List.set_cons_succ, i64_w, i32_w]
                    rfl
                  refine pure_ (i := 16) (N := some 166) (v := ?_) (a' := ?_) #[true, true, true, true, true, true, true, true, true, true, true, true, true, false, true, true, true, false, false, false, false] rfl rfl (by kernel_rfl) (fun _ _ _ h => h) (Or.inl ⟨by rfl, ?_⟩) ?_ ?_
                  rotate_left
                  · intro w'
                    go_simp
                    with_reducible rfl
                  rotate_left
                  · simp only [Act.put, List.setIfInBounds_toArray, List.set_cons_zero, List.set_cons_succ, i64_w, i32_w]
                    rfl
                  refine take_ (i := 13) (N := some 163) (v := ?_) (a' := ?_) #[true, true, true, true, true, true, true, true, true, true, true, true, true, true, true, true, true, false, false, false, false] rfl rfl (by kernel_rfl) (fun _ _ _ h => h) (Or.inl ⟨by rfl, ?_⟩) hHeld ?_ ?_
                  rotate_left
                  · rintro w' ⟨s0, s1, s2, s3⟩
                    have d2_ := (blk_cell s0 3).trans (show _ = some (Value.slice Q nx q) from rfl)
                    go_simp
                    with_reducible rfl
                  rotate_left
                  · simp only [Act.put, List.setIfInBounds_toArray, List.set_cons_zero, List.set_cons_succ, i64_w, i32_w]
                    rfl
                  refine take_ (i := 17) (N := some 167) (v := ?_) (a' := ?_) #[true, true, true, true, true, true, true, true, true, true, true, true, true, true, true, true, true, true, false, false, false] rfl rfl (by kernel_rfl) (fun _ _ _ h => h) (Or.inl ⟨by rfl, ?_⟩) hHeld ?_ ?_
                  rotate_left
                  · rintro w' ⟨s0, s1, s2, s3⟩
                    go_simp
                    with_reducible rfl
                  rotate_left
                  · simp only [Act.put, List.setIfInBounds_toArray, List.set_cons_zero, List.set_cons_succ, i64_w, i32_w]
                    rfl
                  refine one_ (i := 18) (N := some 168) #[true, true, true, true, true, true, true, true, true, true, true, true, true, true, true, true, true, true, true, false, false] rfl rfl (by kernel_rfl) (by decide) (fun K hK => ?_)
                  refine goes_ Try.func39 (by kernel_rfl) rfl #[.slice Q nx q, .slice A7 R1.length c7] (by rfl) rfl rfl (by first | rfl | (simp; done) | (simp only [List.map_toArray, List.map_cons, List.map_nil]; rfl)) ?_
                  with_reducible refine (strs_is Q q A7 c7 nx R1.length X R1 _ HXN.out rfl HEQ.out _ (Kd.C_below HQX.out.2 hHeld.2.2.2) (HXN.out ▸ HQX.out.1) (Kd.C_below HR1.out.2 hHeld.2.2.2) HR1.out.1).mono ?_
                  rintro e w9 ⟨rfl, hb⟩
                  refine ⟨_, rfl, ?_⟩
                  refine hK.out _ _ ⟨blk_below hHeld.1 (hb), ((hb).cell (p := ⟨g1, m, none⟩) (World.block_lt_of_cell? _ ⟨g1, m, none⟩ hHeld.2.1)).trans hHeld.2.1, ((hb).cell (p := ⟨g2, m, none⟩) (World.block_lt_of_cell? _ ⟨g2, m, none⟩ hHeld.2.2.1)).trans hHeld.2.2.1, below_step hHeld.2.2.2 (hb)⟩ (fun hHeld => ?_)
                  clear hK K
                  refine norm_ (a' := ?_) ?_ ?_
                  rotate_left
                  · show Act.put _ (some 168) _ = _
                    simp only [Act.put, List.setIfInBounds_toArray, List.set_cons_zero, List.set_cons_succ, i64_w, i32_w]
                    rfl
                  refine pure_ (i := 19) (N := some 169) (v := ?_) (a' := ?_) #[true, true, true, true, true, true, true, true, true, true, true, true, true, true, true, true, true, true, true, true, false] rfl rfl (by kernel_rfl) (fun _ _ _ h => h) (Or.inl ⟨by rfl, ?_⟩) ?_ ?_
                  rotate_left
                  · intro w'
                    go_simp
                    with_reducible rfl
                  rotate_left
                  · simp only [Act.put, List.setIfInBounds_toArray, List.set_cons_zero, List.set_cons_succ, i64_w, i32_w]
                    rfl
                  refine pure_ (i := 20) (N := some 21) (v := ?_) (a' := ?_) #[true, true, true, true, true, true, true, true, true, true, true, true, true, true, true, true, true, true, true, true, true] rfl rfl (by kernel_rfl) (fun _ _ _ h => h) (Or.inl ⟨by rfl, ?_⟩) ?_ ?_
                  rotate_left
                  · intro w'
                    go_simp
                    with_reducible rfl
                  rotate_left
                  · simp only [Act.put, List.setIfInBounds_toArray, List.set_cons_zero, List.set_cons_succ, i64_w, i32_w]
                    rfl
                  refine done_ (by kernel_rfl) ?_
                  obtain ⟨w8, rfl⟩ : ∃ w8, w8 = w9 := ⟨_, rfl⟩
                  have n1 := Aside0.mk (below_step HW7.out hHeld.2.2.2)
                  have n2 := Aside0.mk hHeld.1
                  have n3 := Aside0.mk (((hHeld.2.2.2).cell (p := ⟨g1, i, none⟩) (World.block_lt_of_cell? _ _ HC3.out)).trans HC3.out)
                  have n4 := Aside0.mk (((hHeld.2.2.2).cell (p := ⟨g2, i, none⟩) (World.block_lt_of_cell? _ _ HC4.out)).trans HC4.out)
                  have n5 := Aside0.mk (And.intro HQX.out.1 (Kd.C_below HQX.out.2 hHeld.2.2.2))
                  have n6 := Aside0.mk (And.intro HR0.out.1 (Kd.C_below HR0.out.2 hHeld.2.2.2))
                  clear HW7 HBX HC1 HC2 HC3 HC4 HQX HR0 HR1 hHeld
                  obtain ⟨HW7, HBX, HC3, HC4, HQX, HR0⟩ := And.intro n1 (And.intro n2 (And.intro n3 (And.intro n4 (And.intro n5 n6))))
                  clear n1 n2 n3 n4 n5 n6
                  clear HEQ hs1 hs2
                  go_wp2_with (fail)
                  refine start_ (n := 30) (S := fun w' => w'.heap[kx]? = some (.cells #[.pointer none, .int .i64 0, .string b0, .slice Q nx q, .int .i64 0, .int .i64 0] 92 (0, 0)) ∧ w'.cell? ⟨g1, i, none⟩ = some (Value.string b0) ∧ w'.cell? ⟨g2, i, none⟩ = some (Value.slice A5 R0.length c5) ∧ Below w8.heap.size w8 w') (ds := []) #[false, false, false, false, false, false, false, false, false, false, false, false, false, false, false, false, false, false, false, false, false, false, false, false, false, false, false, false, false, false] (by kernel_rfl) rfl rfl ⟨blk_below HBX.out (below_drew1 (Below.refl w8.heap.size w8)), ((below_drew1 (Below.refl w8.heap.size w8)).cell (p := ⟨g1, i, none⟩) (World.block_lt_of_cell? _ ⟨g1, i, none⟩ HC3.out)).trans HC3.out, ((below_drew1 (Below.refl w8.heap.size w8)).cell (p := ⟨g2, i, none⟩) (World.block_lt_of_cell? _ ⟨g2, i, none⟩ HC4.out)).trans HC4.out, below_drew1 (Below.refl w8.heap.size w8)⟩ (fun hHeld => ?_)
                  refine pure_ (i := 0) (N := some 170) (v := ?_) (a' := ?_) #[true, false, false, false, false, false, false, false, false, false, false, false, false, false, false, false, false, false, false, false, false, false, false, false, false, false, false, false, false, false] rfl rfl (by kernel_rfl) (fun _ _ _ h => h) (Or.inl ⟨by rfl, ?_⟩) ?_ ?_
                  rotate_left
                  · intro w'
                    go_simp
                    with_reducible rfl
                  rotate_left
                  · simp only [Act.put, List.setIfInBounds_toArray, List.set_cons_zero, List.set_cons_succ, i64_w, i32_w]
                    rfl
                  refine pure_ (i := 1) (N := some 171) (v := ?_) (a' := ?_) #[true, true, false, false, false, false, false, false, false, false, false, false, false, false, false, false, false, false, false, false, false, false, false, false, false, false, false, false, false, false] rfl rfl (by kernel_rfl) (fun _ _ _ h => h) (Or.inl ⟨by rfl, ?_⟩) ?_ ?_
                  rotate_left
                  · intro w'
                    go_simp
                    with_reducible rfl
                  rotate_left
                  · simp only [Act.put, List.setIfInBounds_toArray, List.set_cons_zero, List.set_cons_succ, i64_w, i32_w]
                    rfl
                  refine pure_ (i := 2) (N := some 172) (v := ?_) (a' := ?_) #[true, true, true, false, false, false, false, false, false, false, false, false, false, false, false, false, false, false, false, false, false, false, false, false, false, false, false, false, false, false] rfl rfl (by kernel_rfl) (fun _ _ _ h => h) (Or.inl ⟨by rfl, ?_⟩) ?_ ?_
                  rotate_left
                  · intro w'
                    go_simp
                    with_reducible rfl
                  rotate_left
                  · simp only [Act.put, List.setIfInBounds_toArray, List.set_cons_zero, List.set_cons_succ, i64_w, i32_w]
                    rfl
                  refine pure_ (i := 3) (N := some 173) (v := ?_) (a' := ?_) #[true, true, true, true, false, false, false, false, false, false, false, false, false, false, false, false, false, false, false, false, false, false, false, false, false, false, false, false, false, false] rfl rfl (by kernel_rfl) (fun _ _ _ h => h) (Or.inl ⟨by rfl, ?_⟩) ?_ ?_
                  rotate_left
                  · intro w'
                    go_simp
                    with_reducible rfl
                  rotate_left
                  · simp only [Act.put, List.setIfInBounds_toArray, List.set_cons_zero, List.set_cons_succ, i64_w, i32_w]
                    rfl
                  refine pure_ (i := 4) (N := some 174) (v := ?_) (a' := ?_) #[true, true, true, true, true, false, false, false, false, false, false, false, false, false, false, false, false, false, false, false, false, false, false, false, false, false, false, false, false, false] rfl rfl (by kernel_rfl) (fun _ _ _ h => h) (Or.inl ⟨by rfl, ?_⟩) ?_ ?_
                  rotate_left
                  · intro w'
                    go_simp
                    with_reducible rfl
                  rotate_left
                  · simp only [Act.put, List.setIfInBounds_toArray, List.set_cons_zero, List.set_cons_succ, i64_w, i32_w]
                    rfl
                  refine pure_ (i := 5) (N := some 175) (v := ?_) (a' := ?_) #[true, true, true, true, true, true, false, false, false, false, false, false, false, false, false, false, false, false, false, false, false, false, false, false, false, false, false, false, false, false] rfl rfl (by kernel_rfl) (fun _ _ _ h => h) (Or.inl ⟨by rfl, ?_⟩) ?_ ?_
                  rotate_left
                  · intro w'
                    go_simp
                    with_reducible rfl
                  rotate_left
                  · simp only [Act.put, List.setIfInBounds_toArray, List.set_cons_zero, List.set_cons_succ, i64_w, i32_w]
                    rfl
                  refine pure_ (i := 7) (N := some 177) (v := ?_) (a' := ?_) #[true, true, true, true, true, true, false, true, false, false, false, false, false, false, false, false, false, false, false, false, false, false, false, false, false, false, false, false, false, false] rfl rfl (by kernel_rfl) (fun _ _ _ h => h) (Or.inl ⟨by rfl, ?_⟩) ?_ ?_
                  rotate_left
                  · intro w'
                    go_simp
                    with_reducible rfl
                  rotate_left
                  · simp only [Act.put, List.setIfInBounds_toArray, List.set_cons_zero, List.set_cons_succ, i64_w, i32_w]
                    rfl
                  refine pure_ (i := 8) (N := some 178) (v := ?_) (a' := ?_) #[true, true, true, true, true, true, false, true, true, false, false, false, false, false, false, false, false, false, false, false, false, false, false, false, false, false, false, false, false, false] rfl rfl (by kernel_rfl) (fun _ _ _ h => h) (Or.inl ⟨by rfl, ?_⟩) ?_ ?_
                  rotate_left
                  · intro w'
                    go_simp
                    with_reducible rfl
                  rotate_left
                  · simp only [Act.put, List.setIfInBounds_toArray, List.set_cons_zero, List.set_cons_succ, i64_w, i32_w]
                    rfl
                  refine pure_ (i := 9) (N := some 179) (v := ?_) (a' := ?_) #[true, true, true, true, true, true, false, true, true, true, false, false, false, false, false, false, false, false, false, false, false, false, false, false, false, false, false, false, false, false] rfl rfl (by kernel_rfl) (fun _ _ _ h => h) (Or.inl ⟨by rfl, ?_⟩) ?_ ?_
                  rotate_left
                  · intro w'
                    go_simp
                    with_reducible rfl
                  rotate_left
                  · simp only [Act.put, List.setIfInBounds_toArray, List.set_cons_zero, List.set_cons_succ, i64_w, i32_w]
                    rfl
                  refine pure_ (i := 10) (N := some 180) (v := ?_) (a' := ?_) #[true, true, true, true, true, true, false, true, true, true, true, false, false, false, false, false, false, false, false, false, false, false, false, false, false, false, false, false, false, false] rfl rfl (by kernel_rfl) (fun _ _ _ h => h) (Or.inl ⟨by rfl, ?_⟩) ?_ ?_
                  rotate_left
                  · intro w'
                    go_simp
                    with_reducible rfl
                  rotate_left
                  · simp only [Act.put, List.setIfInBounds_toArray, List.set_cons_zero, List.set_cons_succ, i64_w, i32_w]
                    rfl
                  refine take_ (i := 6) (N := some 176) (v := ?_) (a' := ?_) #[true, true, true, true, true, true, true, true, true, true, true, false, false, false, false, false, false, false, false, false, false, false, false, false, false, false, false, false, false, false] rfl rfl (by kernel_rfl) (fun _ _ _ h => h) (Or.inl ⟨by rfl, ?_⟩) hHeld ?_ ?_
                  rotate_left
                  · rintro w' ⟨s0, s1, s2, s3⟩
                    have d2_ := (blk_cell s0 2).trans (show _ = some (Value.string b0) from rfl)
                    go_simp
                    with_reducible rfl
                  rotate_left
                  · simp only [Act.put, List.setIfInBounds_toArray, List.set_cons_zero, List.set_cons_succ, i64_w, i32_w]
                    rfl
                  refine take_ (i := 11) (N := some 181) (v := ?_) (a' := ?_) #[true, true, true, true, true, true, true, true, true, true, true, true, false, false, false, false, false, false, false, false, false, false, false, false, false, false, false, false, false, false] rfl rfl (by kernel_rfl) (fun _ _ _ h => h) (Or.inl ⟨by rfl, ?_⟩) hHeld ?_ ?_
                  rotate_left
                  · rintro w' ⟨s0, s1, s2, s3⟩
                    go_simp
                    with_reducible rfl
                  rotate_left
                  · simp only [Act.put, List.setIfInBounds_toArray, List.set_cons_zero, List.set_cons_succ, i64_w, i32_w]
                    rfl
                  refine pure_ (i := 12) (N := some 182) (v := ?_) (a' := ?_) #[true, true, true, true, true, true, true, true, true, true, true, true, true, false, false, false, false, false, false, false, false, false, false, false, false, false, false, false, false, false] rfl rfl (by kernel_rfl) (fun _ _ _ h => h) (Or.inl ⟨by rfl, ?_⟩) ?_ ?_
                  rotate_left
                  · intro w'
                    go_simp
                    with_reducible rfl
                  rotate_left
                  · simp only [Act.put, List.setIfInBounds_toArray, List.set_cons_zero, List.set_cons_succ, i64_w, i32_w]
                    rfl
                  refine pure_ (i := 13) (N := some 183) (v := ?_) (a' := ?_) #[true, true, true, true, true, true, true, true, true, true, true, true, true, true, false, false, false, false, false, false, false, false, false, false, false, false, false, false, false, false] rfl rfl (by kernel_rfl) (fun _ _ _ h => h) (Or.inl ⟨by rfl, ?_⟩) ?_ ?_
                  rotate_left
                  · intro w'
                    go_simp
                    with_reducible rfl
                  rotate_left
                  · simp only [Act.put, List.setIfInBounds_toArray, List.set_cons_zero, List.set_cons_succ, i64_w, i32_w]
                    rfl
                  refine pure_ (i := 14) (N := some 184) (v := ?_) (a' := ?_) #[true, true, true, true, true, true, true, true, true, true, true, true, true, true, true, false, false, false, false, false, false, false, false, false, false, false, false, false, false, false] rfl rfl (by kernel_rfl) (fun _ _ _ h => h) (Or.inl ⟨by rfl, ?_⟩) ?_ ?_
                  rotate_left
                  · intro w'
                    go_simp
                    with_reducible rfl
                  rotate_left
                  · simp only [Act.put, List.setIfInBounds_toArray, List.set_cons_zero, List.set_cons_succ, i64_w, i32_w]
                    rfl
                  refine pure_ (i := 15) (N := some 185) (v := ?_) (a' := ?_) #[true, true, true, true, true, true, true, true, true, true, true, true, true, true, true, true, false, false, false, false, false, false, false, false, false, false, false, false, false, false] rfl rfl (by kernel_rfl) (fun _ _ _ h => h) (Or.inl ⟨by rfl, ?_⟩) ?_ ?_
                  rotate_left
                  · intro w'
                    go_simp
                    with_reducible rfl
                  rotate_left
                  · simp only [Act.put, List.setIfInBounds_toArray, List.set_cons_zero, List.set_cons_succ, i64_w, i32_w]
                    rfl
                  refine pure_ (i := 17) (N := some 187) (v := ?_) (a' := ?_) #[true, true, true, true, true, true, true, true, true, true, true, true, true, true, true, true, false, true, false, false, false, false, false, false, false, false, false, false, false, false] rfl rfl (by kernel_rfl) (fun _ _ _ h => h) (Or.inl ⟨by rfl, ?_⟩) ?_ ?_
                  rotate_left
                  · intro w'
                    go_simp
                    with_reducible rfl
                  rotate_left
                  · simp only [Act.put, List.setIfInBounds_toArray, List.set_cons_zero, List.set_cons_succ, i64_w, i32_w]
                    rfl
                  refine pure_ (i := 18) (N := some 188) (v := ?_) (a' := ?_) #[true, true, true, true, true, true, true, true, true, true, true, true, true, true, true, true, false, true, true, false, false, false, false, false, false, false, false, false, false, false] rfl rfl (by kernel_rfl) (fun _ _ _ h => h) (Or.inl ⟨by rfl, ?_⟩) ?_ ?_
                  rotate_left
                  · intro w'
                    go_simp
                    with_reducible rfl
                  rotate_left
                  · simp only [Act.put, List.setIfInBounds_toArray, List.set_cons_zero, List.set_cons_succ, i64_w, i32_w]
                    rfl
                  refine pure_ (i := 19) (N := some 189) (v := ?_) (a' := ?_) #[true, true, true, true, true, true, true, true, true, true, true, true, true, true, true, true, false, true, true, true, false, false, false, false, false, false, false, false, false, false] rfl rfl (by kernel_rfl) (fun _ _ _ h => h) (Or.inl ⟨by rfl, ?_⟩) ?_ ?_
                  rotate_left
                  · intro w'
                    go_simp
                    with_reducible rfl
                  rotate_left
                  · simp only [Act.put, List.setIfInBounds_toArray, List.set_cons_zero, List.set_cons_succ, i64_w, i32_w]
                    rfl
                  refine pure_ (i := 20) (N := some 190) (v := ?_) (a' := ?_) #[true, true, true, true, true, true, true, true, true, true, true, true, true, true, true, true, false, true, true, true, true, false, false, false, false, false, false, false, false, false] rfl rfl (by kernel_rfl) (fun _ _ _ h => h) (Or.inl ⟨by rfl, ?_⟩) ?_ ?_
                  rotate_left
                  · intro w'
                    go_simp
                    with_reducible rfl
                  rotate_left
                  · simp only [Act.put, List.setIfInBounds_toArray, List.set_cons_zero, List.set_cons_succ, i64_w, i32_w]
                    rfl
                  refine pure_ (i := 22) (N := some 192) (v := ?_) (a' := ?_) #[true, true, true, true, true, true, true, true, true, true, true, true, true, true, true, true, false, true, true, true, true, false, true, false, false, false, false, false, false, false] rfl rfl (by kernel_rfl) (fun _ _ _ h => h) (Or.inl ⟨by rfl, ?_⟩) ?_ ?_
                  rotate_left
                  · intro w'
                    go_simp
                    with_reducible rfl
                  rotate_left
                  · simp only [Act.put, List.setIfInBounds_toArray, List.set_cons_zero, List.set_cons_succ, i64_w, i32_w]
                    rfl
                  refine take_ (i := 16) (N := some 186) (v := ?_) (a' := ?_) #[true, true, true, true, true, true, true, true, true, true, true, true, true, true, true, true, true, true, true, true, true, false, true, false, false, false, false, false, false, false] rfl rfl (by kernel_rfl) (fun _ _ _ h => h) (Or.inl ⟨by rfl, ?_⟩) hHeld ?_ ?_
                  rotate_left
                  · rintro w' ⟨s0, s1, s2, s3⟩
                    have d2_ := (blk_cell s0 3).trans (show _ = some (Value.slice Q nx q) from rfl)
                    go_simp
                    with_reducible rfl
                  rotate_left
                  · simp only [Act.put, List.setIfInBounds_toArray, List.set_cons_zero, List.set_cons_succ, i64_w, i32_w]
                    rfl
                  refine take_ (i := 21) (N := some 191) (v := ?_) (a' := ?_) #[true, true, true, true, true, true, true, true, true, true, true, true, true, true, true, true, true, true, true, true, true, true, true, false, false, false, false, false, false, false] rfl rfl (by kernel_rfl) (fun _ _ _ h => h) (Or.inl ⟨by rfl, ?_⟩) hHeld ?_ ?_
                  rotate_left
                  · rintro w' ⟨s0, s1, s2, s3⟩
                    go_simp
                    with_reducible rfl
                  rotate_left
                  · simp only [Act.put, List.setIfInBounds_toArray, List.set_cons_zero, List.set_cons_succ, i64_w, i32_w]
                    rfl
                  refine one_ (i := 23) (N := some 193) #[true, true, true, true, true, true, true, true, true, true, true, true, true, true, true, true, true, true, true, true, true, true, true, true, false, false, false, false, false, false] rfl rfl (by kernel_rfl) (by decide) (fun K hK => ?_)
                  refine goes_ Try.func46 (by kernel_rfl) rfl #[.slice Q nx q, .slice A5 R0.length c5, .int .i64 (kept : Int)] (by rfl) rfl rfl (by first | rfl | (simp; done) | (simp only [List.map_toArray, List.map_cons, List.map_nil]; rfl)) ?_
                  with_reducible refine (between_calls Q q A5 c5 nx R0.length X R0 kept jj HXN.out rfl HXT.out HJT.out.2 HJT.out.1 _ (Kd.C_below HQX.out.2 hHeld.2.2.2) (HXN.out ▸ HQX.out.1) (Kd.C_below HR0.out.2 hHeld.2.2.2) HR0.out.1).mono ?_
                  rintro e w9 ⟨rfl, hb⟩
                  refine ⟨_, rfl, ?_⟩
                  refine hK.out _ _ ⟨blk_below hHeld.1 (hb), ((hb).cell (p := ⟨g1, i, none⟩) (World.block_lt_of_cell? _ ⟨g1, i, none⟩ hHeld.2.1)).trans hHeld.2.1, ((hb).cell (p := ⟨g2, i, none⟩) (World.block_lt_of_cell? _ ⟨g2, i, none⟩ hHeld.2.2.1)).trans hHeld.2.2.1, below_step hHeld.2.2.2 (hb)⟩ (fun hHeld => ?_)
                  clear hK K
                  refine norm_ (a' := ?_) ?_ ?_
                  rotate_left
                  · show Act.put _ (some 193) _ = _
                    simp only [Act.put, List.setIfInBounds_toArray, List.set_cons_zero, List.set_cons_succ, i64_w, i32_w]
                    rfl
                  refine pure_ (i := 24) (N := some 194) (v := ?_) (a' := ?_) #[true, true, true, true, true, true, true, true, true, true, true, true, true, true, true, true, true, true, true, true, true, true, true, true, true, false, false, false, false, false] rfl rfl (by kernel_rfl) (fun _ _ _ h => h) (Or.inl ⟨by rfl, ?_⟩) ?_ ?_
                  rotate_left
                  · intro w'
                    go_simp
                    with_reducible rfl
                  rotate_left
                  · simp only [Act.put, List.setIfInBounds_toArray, List.set_cons_zero, List.set_cons_succ, i64_w, i32_w]
                    rfl
                  refine pure_ (i := 25) (N := some 195) (v := ?_) (a' := ?_) #[true, true, true, true, true, true, true, true, true, true, true, true, true, true, true, true, true, true, true, true, true, true, true, true, true, true, false, false, false, false] rfl rfl (by kernel_rfl) (fun _ _ _ h => h) (Or.inl ⟨by rfl, ?_⟩) ?_ ?_
                  rotate_left
                  · intro w'
                    go_simp
                    with_reducible rfl
                  rotate_left
                  · simp only [Act.put, List.setIfInBounds_toArray, List.set_cons_zero, List.set_cons_succ, i64_w, i32_w]
                    rfl
                  refine pure_ (i := 26) (N := some 196) (v := ?_) (a' := ?_) #[true, true, true, true, true, true, true, true, true, true, true, true, true, true, true, true, true, true, true, true, true, true, true, true, true, true, true, false, false, false] rfl rfl (by kernel_rfl) (fun _ _ _ h => h) (Or.inl ⟨by rfl, ?_⟩) ?_ ?_
                  rotate_left
                  · intro w'
                    go_simp
                    with_reducible rfl
                  rotate_left
                  · simp only [Act.put, List.setIfInBounds_toArray, List.set_cons_zero, List.set_cons_succ, i64_w, i32_w]
                    rfl
                  refine one_ (i := 27) (N := some 197) #[true, true, true, true, true, true, true, true, true, true, true, true, true, true, true, true, true, true, true, true, true, true, true, true, true, true, true, true, false, false] rfl rfl (by kernel_rfl) (by decide) (fun K hK => ?_)
                  refine goes_ Try.func31 (by kernel_rfl) rfl #[] (by rfl) rfl rfl (by first | rfl | (simp; done) | (simp only [List.map_toArray, List.map_cons, List.map_nil]; rfl)) ?_
                  with_reducible refine (Tp.awake_calls _).mono ?_
                  rintro e w10 ⟨rfl, hb⟩
                  refine ⟨_, rfl, ?_⟩
                  refine hK.out _ _ ⟨blk_below hHeld.1 (hb), ((hb).cell (p := ⟨g1, i, none⟩) (World.block_lt_of_cell? _ ⟨g1, i, none⟩ hHeld.2.1)).trans hHeld.2.1, ((hb).cell (p := ⟨g2, i, none⟩) (World.block_lt_of_cell? _ ⟨g2, i, none⟩ hHeld.2.2.1)).trans hHeld.2.2.1, below_step hHeld.2.2.2 (hb)⟩ (fun hHeld => ?_)
                  clear hK K
                  refine norm_ (a' := ?_) ?_ ?_
                  rotate_left
                  · show Act.put _ (some 197) _ = _
                    simp only [Act.put, List.setIfInBounds_toArray, List.set_cons_zero, List.set_cons_succ, i64_w, i32_w]
                    rfl
                  refine pure_ (i := 28) (N := some 198) (v := ?_) (a' := ?_) #[true, true, true, true, true, true, true, true, true, true, true, true, true, true, true, true, true, true, true, true, true, true, true, true, true, true, true, true, true, false] rfl rfl (by kernel_rfl) (fun _ _ _ h => h) (Or.inl ⟨by rfl, ?_⟩) ?_ ?_
                  rotate_left
                  · intro w'
                    go_simp
                    with_reducible rfl
                  rotate_left
                  · simp only [Act.put, List.setIfInBounds_toArray, List.set_cons_zero, List.set_cons_succ, i64_w, i32_w]
                    rfl
                  refine pure_ (i := 29) (N := some 6) (v := ?_) (a' := ?_) #[true, true, true, true, true, true, true, true, true, true, true, true, true, true, true, true, true, true, true, true, true, true, true, true, true, true, true, true, true, true] rfl rfl (by kernel_rfl) (fun _ _ _ h => h) (Or.inl ⟨by rfl, ?_⟩) ?_ ?_
                  rotate_left
                  · intro w'
                    go_simp
                    with_reducible rfl
                  rotate_left
                  · simp only [Act.put, List.setIfInBounds_toArray, List.set_cons_zero, List.set_cons_succ, i64_w, i32_w]
                    rfl
                  refine done_ (by kernel_rfl) ?_
                  go_wp2_with (fail)
                  go_ret
                  exact ⟨rfl, below_step HW7.out hHeld.2.2.2⟩
                · as_aux_lemma =>
                  have hs1 : (b0 == B1) = false := str_bne hbb
                  have hs2 : (b0.toList == B1.toList) = false := by
                    cases h : (b0.toList == B1.toList) with
                    | false => rfl
                    | true => exact absurd (Go.Proofs.Ytehjbhnlbjbhfaa.Rd.byte_eq (by rw [← Go.Proofs.Ytehjbhnlbjbhfaa.WkR.ba_toList, ← Go.Proofs.Ytehjbhnlbjbhfaa.WkR.ba_toList]; exact eq_of_beq h)) hbb
                  have hs3 : (b0.toList == b0.toList) = true := beq_self_eq_true _
                  have hs4 : (b0 == b0) = true := str_beq rfl
                  have HOLD := Aside0.mk (show ∃ j, kept ≤ j ∧ j ≤ R0.length ∧ X = R0.take j by
                    rcases HCS.out with ⟨h1, h2⟩ | ⟨_, h⟩
                    · exact absurd h1 hbb
                    · exact h)
                  have HB00 := Aside0.mk (show B0 = b0 by
                    rcases HCS.out with ⟨h1, h2⟩ | ⟨h, _⟩
                    · exact absurd h1 hbb
                    · exact h.symm)
                  rw [HB00.out] at HC3
                  obtain ⟨jj, j1, j2, j3⟩ := HOLD.out
                  have HJT := Aside0.mk (And.intro j1 j2)
                  have HXT := Aside0.mk j3
                  clear HOLD HB00 j1 j2 j3 HCS
                  clear hbb
                  go_wp2_with (fail)
                  rw [HWM.out]
                  refine start_ (n := 21) (S := fun w' => w'.heap[kx]? = some (.cells #[.pointer none, .int .i64 0, .string b0, .slice Q nx q, .int .i64 0, .int .i64 0] 92 (0, 0)) ∧ w'.cell? ⟨g1, m, none⟩ = some (Value.string B1) ∧ w'.cell? ⟨g2, m, none⟩ = some (Value.slice A7 R1.length c7) ∧ Below w8.heap.size w8 w') (ds := []) #[false, false, false, false, false, false, false, false, false, false, false, false, false, false, false, false, false, false, false, false, false] (by kernel_rfl) rfl rfl ⟨blk_below HBX.out (below_drew1 (Below.refl w8.heap.size w8)), ((below_drew1 (Below.refl w8.heap.size w8)).cell (p := ⟨g1, m, none⟩) (World.block_lt_of_cell? _ ⟨g1, m, none⟩ HC1.out)).trans HC1.out, ((below_drew1 (Below.refl w8.heap.size w8)).cell (p := ⟨g2, m, none⟩) (World.block_lt_of_cell? _ ⟨g2, m, none⟩ HC2.out)).trans HC2.out, below_drew1 (Below.refl w8.heap.size w8)⟩ (fun hHeld => ?_)
                  refine pure_ (i := 0) (N := some 150) (v := ?_) (a' := ?_) #[true, false, false, false, false, false, false, false, false, false, false, false, false, false, false, false, false, false, false, false, false] rfl rfl (by kernel_rfl) (fun _ _ _ h => h) (Or.inl ⟨by rfl, ?_⟩) ?_ ?_
                  rotate_left
                  · intro w'
                    go_simp
                    with_reducible rfl
                  rotate_left
                  · simp only [Act.put, List.setIfInBounds_toArray, List.set_cons_zero, List.set_cons_succ, i64_w, i32_w]
                    rfl
                  refine pure_ (i := 1) (N := some 151) (v := ?_) (a' := ?_) #[true, true, false, false, false, false, false, false, false, false, false, false, false, false, false, false, false, false, false, false, false] rfl rfl (by kernel_rfl) (fun _ _ _ h => h) (Or.inl ⟨by rfl, ?_⟩) ?_ ?_
                  rotate_left
                  · intro w'
                    go_simp
                    with_reducible rfl
                  rotate_left
                  · simp only [Act.put, List.setIfInBounds_toArray, List.set_cons_zero, List.set_cons_succ, i64_w, i32_w]
                    rfl
                  refine pure_ (i := 2) (N := some 152) (v := ?_) (a' := ?_) #[true, true, true, false, false, false, false, false, false, false, false, false, false, false, false, false, false, false, false, false, false] rfl rfl (by kernel_rfl) (fun _ _ _ h => h) (Or.inl ⟨by rfl, ?_⟩) ?_ ?_
                  rotate_left
                  · intro w'
                    go_simp
                    with_reducible rfl
                  rotate_left
                  · simp only [Act.put, List.setIfInBounds_toArray, List.set_cons_zero, List.set_cons_succ, i64_w, i32_w]
                    rfl
                  refine pure_ (i := 3) (N := some 153) (v := ?_) (a' := ?_) #[true, true, true, true, false, false, false, false, false, false, false, false, false, false, false, false, false, false, false, false, false] rfl rfl (by kernel_rfl) (fun _ _ _ h => h) (Or.inl ⟨by rfl, ?_⟩) ?_ ?_
                  rotate_left
                  · intro w'
                    go_simp
                    with_reducible rfl
                  rotate_left
                  · simp only [Act.put, List.setIfInBounds_toArray, List.set_cons_zero, List.set_cons_succ, i64_w, i32_w]
                    rfl
                  refine pure_ (i := 5) (N := some 155) (v := ?_) (a' := ?_) #[true, true, true, true, false, true, false, false, false, false, false, false, false, false, false, false, false, false, false, false, false] rfl rfl (by kernel_rfl) (fun _ _ _ h => h) (Or.inl ⟨by rfl, ?_⟩) ?_ ?_
                  rotate_left
                  · intro w'
                    go_simp
                    with_reducible rfl
                  rotate_left
                  · simp only [Act.put, List.setIfInBounds_toArray, List.set_cons_zero, List.set_cons_succ, i64_w, i32_w]
                    rfl
                  refine pure_ (i := 6) (N := some 156) (v := ?_) (a' := ?_) #[true, true, true, true, false, true, true, false, false, false, false, false, false, false, false, false, false, false, false, false, false] rfl rfl (by kernel_rfl) (fun _ _ _ h => h) (Or.inl ⟨by rfl, ?_⟩) ?_ ?_
                  rotate_left
                  · intro w'
                    go_simp
                    with_reducible rfl
                  rotate_left
                  · simp only [Act.put, List.setIfInBounds_toArray, List.set_cons_zero, List.set_cons_succ, i64_w, i32_w]
                    rfl
                  refine pure_ (i := 7) (N := some 157) (v := ?_) (a' := ?_) #[true, true, true, true, false, true, true, true, false, false, false, false, false, false, false, false, false, false, false, false, false] rfl rfl (by kernel_rfl) (fun _ _ _ h => h) (Or.inl ⟨by rfl, ?_⟩) ?_ ?_
                  rotate_left
                  · intro w'
                    go_simp
                    with_reducible rfl
                  rotate_left
                  · simp only [Act.put, List.setIfInBounds_toArray, List.set_cons_zero, List.set_cons_succ, i64_w, i32_w]
                    rfl
                  refine take_ (i := 4) (N := some 154) (v := ?_) (a' := ?_) #[true, true, true, true, true, true, true, true, false, false, false, false, false, false, false, false, false, false, false, false, false] rfl rfl (by kernel_rfl) (fun _ _ _ h => h) (Or.inl ⟨by rfl, ?_⟩) hHeld ?_ ?_
                  rotate_left
                  · rintro w' ⟨s0, s1, s2, s3⟩
                    have d2_ := (blk_cell s0 2).trans (show _ = some (Value.string b0) from rfl)
                    go_simp
                    with_reducible rfl
                  rotate_left
                  · simp only [Act.put, List.setIfInBounds_toArray, List.set_cons_zero, List.set_cons_succ, i64_w, i32_w]
                    rfl
                  refine take_ (i := 8) (N := some 158) (v := ?_) (a' := ?_) #[true, true, true, true, true, true, true, true, true, false, false, false, false, false, false, false, false, false, false, false, false] rfl rfl (by kernel_rfl) (fun _ _ _ h => h) (Or.inl ⟨by rfl, ?_⟩) hHeld ?_ ?_
                  rotate_left
                  · rintro w' ⟨s0, s1, s2, s3⟩
                    go_simp
                    with_reducible rfl
                  rotate_left
                  · simp only [Act.put, List.setIfInBounds_toArray, List.set_cons_zero, List.set_cons_succ, i64_w, i32_w]
                    rfl
                  refine pure_ (i := 9) (N := some 159) (v := ?_) (a' := ?_) #[true, true, true, true, true, true, true, true, true, true, false, false, false, false, false, false, false, false, false, false, false] rfl rfl (by kernel_rfl) (fun _ _ _ h => h) (Or.inl ⟨by rfl, ?_⟩) ?_ ?_
                  rotate_left
                  · intro w'
                    go_simp
                    with_reducible rfl
                  rotate_left
                  · simp only [Act.put, List.setIfInBounds_toArray, List.set_cons_zero, List.set_cons_succ, i64_w, i32_w]
                    rfl
                  refine pure_ (i := 10) (N := some 160) (v := ?_) (a' := ?_) #[true, true, true, true, true, true, true, true, true, true, true, false, false, false, false, false, false, false, false, false, false] rfl rfl (by kernel_rfl) (fun _ _ _ h => h) (Or.inl ⟨by rfl, ?_⟩) ?_ ?_
                  rotate_left
                  · intro w'
                    go_simp
                    with_reducible rfl
                  rotate_left
                  · simp only [Act.put, List.setIfInBounds_toArray, List.set_cons_zero, List.set_cons_succ, i64_w, i32_w]
                    rfl
                  refine pure_ (i := 11) (N := some 161) (v := ?_) (a' := ?_) #[true, true, true, true, true, true, true, true, true, true, true, true, false, false, false, false, false, false, false, false, false] rfl rfl (by kernel_rfl) (fun _ _ _ h => h) (Or.inl ⟨by rfl, ?_⟩) ?_ ?_
                  rotate_left
                  · intro w'
                    go_simp
                    with_reducible rfl
                  rotate_left
                  · simp only [Act.put, List.setIfInBounds_toArray, List.set_cons_zero, List.set_cons_succ, i64_w, i32_w]
                    rfl
                  refine pure_ (i := 12) (N := some 162) (v := undef) (a' := ?_) #[true, true, true, true, true, true, true, true, true, true, true, true, true, false, false, false, false, false, false, false, false] rfl rfl (by kernel_rfl) (fun _ _ _ h => h) (Or.inr ⟨by rfl, rfl⟩) ?_ ?_
                  rotate_left
                  · simp only [Act.put, List.setIfInBounds_toArray, List.set_cons_zero, List.set_cons_succ, i64_w, i32_w]
                    rfl
                  refine pure_ (i := 13) (N := some 163) (v := undef) (a' := ?_) #[true, true, true, true, true, true, true, true, true, true, true, true, true, true, false, false, false, false, false, false, false] rfl rfl (by kernel_rfl) (fun _ _ _ h => h) (Or.inr ⟨by rfl, rfl⟩) ?_ ?_
                  rotate_left
                  · simp only [Act.put, List.setIfInBounds_toArray, List.set_cons_zero, List.set_cons_succ, i64_w, i32_w]
                    rfl
                  refine pure_ (i := 14) (N := some 164) (v := undef) (a' := ?_) #[true, true, true, true, true, true, true, true, true, true, true, true, true, true, true, false, false, false, false, false, false] rfl rfl (by kernel_rfl) (fun _ _ _ h => h) (Or.inr ⟨by rfl, rfl⟩) ?_ ?_
                  rotate_left
                  · simp only [Act.put, List.setIfInBounds_toArray, List.set_cons_zero, List.set_cons_succ, i64_w, i32_w]
                    rfl
                  refine pure_ (i := 15) (N := some 165) (v := undef) (a' := ?_) #[true, true, true, true, true, true, true, true, true, true, true, true, true, true, true, true, false, false, false, false, false] rfl rfl (by kernel_rfl) (fun _ _ _ h => h) (Or.inr ⟨by rfl, rfl⟩) ?_ ?_
                  rotate_left
                  · simp only [Act.put, List.setIfInBounds_toArray, List.set_cons_zero, List.set_cons_succ, i64_w, i32_w]
                    rfl
                  refine pure_ (i := 16) (N := some 166) (v := undef) (a' := ?_) #[true, true, true, true, true, true, true, true, true, true, true, true, true, true, true, true, true, false, false, false, false] rfl rfl (by kernel_rfl) (fun _ _ _ h => h) (Or.inr ⟨by rfl, rfl⟩) ?_ ?_
                  rotate_left
                  · simp only [Act.put, List.setIfInBounds_toArray, List.set_cons_zero, List.set_cons_succ, i64_w, i32_w]
                    rfl
                  refine pure_ (i := 17) (N := some 167) (v := undef) (a' := ?_) #[true, true, true, true, true, true, true, true, true, true, true, true, true, true, true, true, true, true, false, false, false] rfl rfl (by kernel_rfl) (fun _ _ _ h => h) (Or.inr ⟨by rfl, rfl⟩) ?_ ?_
                  rotate_left
                  · simp only [Act.put, List.setIfInBounds_toArray, List.set_cons_zero, List.set_cons_succ, i64_w, i32_w]
                    rfl
                  refine pure_ (i := 18) (N := some 168) (v := undef) (a' := ?_) #[true, true, true, true, true, true, true, true, true, true, true, true, true, true, true, true, true, true, true, false, false] rfl rfl (by kernel_rfl) (fun _ _ _ h => h) (Or.inr ⟨by rfl, rfl⟩) ?_ ?_
                  rotate_left
                  · simp only [Act.put, List.setIfInBounds_toArray, List.set_cons_zero, List.set_cons_succ, i64_w, i32_w]
                    rfl
                  refine pure_ (i := 19) (N := some 169) (v := ?_) (a' := ?_) #[true, true, true, true, true, true, true, true, true, true, true, true, true, true, true, true, true, true, true, true, false] rfl rfl (by kernel_rfl) (fun _ _ _ h => h) (Or.inl ⟨by rfl, ?_⟩) ?_ ?_
                  rotate_left
                  · intro w'
                    go_simp
                    with_reducible rfl
                  rotate_left
                  · simp only [Act.put, List.setIfInBounds_toArray, List.set_cons_zero, List.set_cons_succ, i64_w, i32_w]
                    rfl
                  refine pure_ (i := 20) (N := some 21) (v := ?_) (a' := ?_) #[true, true, true, true, true, true, true, true, true, true, true, true, true, true, true, true, true, true, true, true, true] rfl rfl (by kernel_rfl) (fun _ _ _ h => h) (Or.inl ⟨by rfl, ?_⟩) ?_ ?_
                  rotate_left
                  · intro w'
                    go_simp
                    with_reducible rfl
                  rotate_left
                  · simp only [Act.put, List.setIfInBounds_toArray, List.set_cons_zero, List.set_cons_succ, i64_w, i32_w]
                    rfl
                  refine done_ (by kernel_rfl) ?_
                  obtain ⟨w8, hw8⟩ : ∃ w8', w8' = w8.drew := ⟨_, rfl⟩
                  rw [← hw8] at hHeld ⊢
                  clear hw8
                  have n1 := Aside0.mk (below_step HW7.out hHeld.2.2.2)
                  have n2 := Aside0.mk hHeld.1
                  have n3 := Aside0.mk (((hHeld.2.2.2).cell (p := ⟨g1, i, none⟩) (World.block_lt_of_cell? _ _ HC3.out)).trans HC3.out)
                  have n4 := Aside0.mk (((hHeld.2.2.2).cell (p := ⟨g2, i, none⟩) (World.block_lt_of_cell? _ _ HC4.out)).trans HC4.out)
                  have n5 := Aside0.mk (And.intro HQX.out.1 (Kd.C_below HQX.out.2 hHeld.2.2.2))
                  have n6 := Aside0.mk (And.intro HR0.out.1 (Kd.C_below HR0.out.2 hHeld.2.2.2))
                  clear HW7 HBX HC1 HC2 HC3 HC4 HQX HR0 HR1 hHeld
                  obtain ⟨HW7, HBX, HC3, HC4, HQX, HR0⟩ := And.intro n1 (And.intro n2 (And.intro n3 (And.intro n4 (And.intro n5 n6))))
                  clear n1 n2 n3 n4 n5 n6
                  clear hs1 hs2
                  go_wp2_with (fail)
                  refine start_ (n := 30) (S := fun w' => w'.heap[kx]? = some (.cells #[.pointer none, .int .i64 0, .string b0, .slice Q nx q, .int .i64 0, .int .i64 0] 92 (0, 0)) ∧ w'.cell? ⟨g1, i, none⟩ = some (Value.string b0) ∧ w'.cell? ⟨g2, i, none⟩ = some (Value.slice A5 R0.length c5) ∧ Below w8.heap.size w8 w') (ds := []) #[false, false, false, false, false, false, false, false, false, false, false, false, false, false, false, false, false, false, false, false, false, false, false, false, false, false, false, false, false, false] (by kernel_rfl) rfl rfl ⟨blk_below HBX.out (below_drew1 (Below.refl w8.heap.size w8)), ((below_drew1 (Below.refl w8.heap.size w8)).cell (p := ⟨g1, i, none⟩) (World.block_lt_of_cell? _ ⟨g1, i, none⟩ HC3.out)).trans HC3.out, ((below_drew1 (Below.refl w8.heap.size w8)).cell (p := ⟨g2, i, none⟩) (World.block_lt_of_cell? _ ⟨g2, i, none⟩ HC4.out)).trans HC4.out, below_drew1 (Below.refl w8.heap.size w8)⟩ (fun hHeld => ?_)
                  refine pure_ (i := 0) (N := some 170) (v := ?_) (a' := ?_) #[true, false, false, false, false, false, false, false, false, false, false, false, false, false, false, false, false, false, false, false, false, false, false, false, false, false, false, false, false, false] rfl rfl (by kernel_rfl) (fun _ _ _ h => h) (Or.inl ⟨by rfl, ?_⟩) ?_ ?_
                  rotate_left
                  · intro w'
                    go_simp
                    with_reducible rfl
                  rotate_left
                  · simp only [Act.put, List.setIfInBounds_toArray, List.set_cons_zero, List.set_cons_succ, i64_w, i32_w]
                    rfl
                  refine pure_ (i := 1) (N := some 171) (v := ?_) (a' := ?_) #[true, true, false, false, false, false, false, false, false, false, false, false, false, false, false, false, false, false, false, false, false, false, false, false, false, false, false, false, false, false] rfl rfl (by kernel_rfl) (fun _ _ _ h => h) (Or.inl ⟨by rfl, ?_⟩) ?_ ?_
                  rotate_left
                  · intro w'
                    go_simp
                    with_reducible rfl
                  rotate_left
                  · simp only [Act.put, List.setIfInBounds_toArray, List.set_cons_zero, List.set_cons_succ, i64_w, i32_w]
                    rfl
                  refine pure_ (i := 2) (N := some 172) (v := ?_) (a' := ?_) #[true, true, true, false, false, false, false, false, false, false, false, false, false, false, false, false, false, false, false, false, false, false, false, false, false, false, false, false, false, false] rfl rfl (by kernel_rfl) (fun _ _ _ h => h) (Or.inl ⟨by rfl, ?_⟩) ?_ ?_
                  rotate_left
                  · intro w'
                    go_simp
                    with_reducible rfl
                  rotate_left
                  · simp only [Act.put, List.setIfInBounds_toArray, List.set_cons_zero, List.set_cons_succ, i64_w, i32_w]
                    rfl
                  refine pure_ (i := 3) (N := some 173) (v := ?_) (a' := ?_) #[true, true, true, true, false, false, false, false, false, false, false, false, false, false, false, false, false, false, false, false, false, false, false, false, false, false, false, false, false, false] rfl rfl (by kernel_rfl) (fun _ _ _ h => h) (Or.inl ⟨by rfl, ?_⟩) ?_ ?_
                  rotate_left
                  · intro w'
                    go_simp
                    with_reducible rfl
                  rotate_left
                  · simp only [Act.put, List.setIfInBounds_toArray, List.set_cons_zero, List.set_cons_succ, i64_w, i32_w]
                    rfl
                  refine pure_ (i := 4) (N := some 174) (v := ?_) (a' := ?_) #[true, true, true, true, true, false, false, false, false, false, false, false, false, false, false, false, false, false, false, false, false, false, false, false, false, false, false, false, false, false] rfl rfl (by kernel_rfl) (fun _ _ _ h => h) (Or.inl ⟨by rfl, ?_⟩) ?_ ?_
                  rotate_left
                  · intro w'
                    go_simp
                    with_reducible rfl
                  rotate_left
                  · simp only [Act.put, List.setIfInBounds_toArray, List.set_cons_zero, List.set_cons_succ, i64_w, i32_w]
                    rfl
                  refine pure_ (i := 5) (N := some 175) (v := ?_) (a' := ?_) #[true, true, true, true, true, true, false, false, false, false, false, false, false, false, false, false, false, false, false, false, false, false, false, false, false, false, false, false, false, false] rfl rfl (by kernel_rfl) (fun _ _ _ h => h) (Or.inl ⟨by rfl, ?_⟩) ?_ ?_
                  rotate_left
                  · intro w'
                    go_simp
                    with_reducible rfl
                  rotate_left
                  · simp only [Act.put, List.setIfInBounds_toArray, List.set_cons_zero, List.set_cons_succ, i64_w, i32_w]
                    rfl
                  refine pure_ (i := 7) (N := some 177) (v := ?_) (a' := ?_) #[true, true, true, true, true, true, false, true, false, false, false, false, false, false, false, false, false, false, false, false, false, false, false, false, false, false, false, false, false, false] rfl rfl (by kernel_rfl) (fun _ _ _ h => h) (Or.inl ⟨by rfl, ?_⟩) ?_ ?_
                  rotate_left
                  · intro w'
                    go_simp
                    with_reducible rfl
                  rotate_left
                  · simp only [Act.put, List.setIfInBounds_toArray, List.set_cons_zero, List.set_cons_succ, i64_w, i32_w]
                    rfl
                  refine pure_ (i := 8) (N := some 178) (v := ?_) (a' := ?_) #[true, true, true, true, true, true, false, true, true, false, false, false, false, false, false, false, false, false, false, false, false, false, false, false, false, false, false, false, false, false] rfl rfl (by kernel_rfl) (fun _ _ _ h => h) (Or.inl ⟨by rfl, ?_⟩) ?_ ?_
                  rotate_left
                  · intro w'
                    go_simp
                    with_reducible rfl
                  rotate_left
                  · simp only [Act.put, List.setIfInBounds_toArray, List.set_cons_zero, List.set_cons_succ, i64_w, i32_w]
                    rfl
                  refine pure_ (i := 9) (N := some 179) (v := ?_) (a' := ?_) #[true, true, true, true, true, true, false, true, true, true, false, false, false, false, false, false, false, false, false, false, false, false, false, false, false, false, false, false, false, false] rfl rfl (by kernel_rfl) (fun _ _ _ h => h) (Or.inl ⟨by rfl, ?_⟩) ?_ ?_
                  rotate_left
                  · intro w'
                    go_simp
                    with_reducible rfl
                  rotate_left
                  · simp only [Act.put, List.setIfInBounds_toArray, List.set_cons_zero, List.set_cons_succ, i64_w, i32_w]
                    rfl
                  refine pure_ (i := 10) (N := some 180) (v := ?_) (a' := ?_) #[true, true, true, true, true, true, false, true, true, true, true, false, false, false, false, false, false, false, false, false, false, false, false, false, false, false, false, false, false, false] rfl rfl (by kernel_rfl) (fun _ _ _ h => h) (Or.inl ⟨by rfl, ?_⟩) ?_ ?_
                  rotate_left
                  · intro w'
                    go_simp
                    with_reducible rfl
                  rotate_left
                  · simp only [Act.put, List.setIfInBounds_toArray, List.set_cons_zero, List.set_cons_succ, i64_w, i32_w]
                    rfl
                  refine take_ (i := 6) (N := some 176) (v := ?_) (a' := ?_) #[true, true, true, true, true, true, true, true, true, true, true, false, false, false, false, false, false, false, false, false, false, false, false, false, false, false, false, false, false, false] rfl rfl (by kernel_rfl) (fun _ _ _ h => h) (Or.inl ⟨by rfl, ?_⟩) hHeld ?_ ?_
                  rotate_left
                  · rintro w' ⟨s0, s1, s2, s3⟩
                    have d2_ := (blk_cell s0 2).trans (show _ = some (Value.string b0) from rfl)
                    go_simp
                    with_reducible rfl
                  rotate_left
                  · simp only [Act.put, List.setIfInBounds_toArray, List.set_cons_zero, List.set_cons_succ, i64_w, i32_w]
                    rfl
                  refine take_ (i := 11) (N := some 181) (v := ?_) (a' := ?_) #[true, true, true, true, true, true, true, true, true, true, true, true, false, false, false, false, false, false, false, false, false, false, false, false, false, false, false, false, false, false] rfl rfl (by kernel_rfl) (fun _ _ _ h => h) (Or.inl ⟨by rfl, ?_⟩) hHeld ?_ ?_
                  rotate_left
                  · rintro w' ⟨s0, s1, s2, s3⟩
                    go_simp
                    with_reducible rfl
                  rotate_left
                  · simp only [Act.put, List.setIfInBounds_toArray, List.set_cons_zero, List.set_cons_succ, i64_w, i32_w]
                    rfl
                  refine pure_ (i := 12) (N := some 182) (v := ?_) (a' := ?_) #[true, true, true, true, true, true, true, true, true, true, true, true, true, false, false, false, false, false, false, false, false, false, false, false, false, false, false, false, false, false] rfl rfl (by kernel_rfl) (fun _ _ _ h => h) (Or.inl ⟨by rfl, ?_⟩) ?_ ?_
                  rotate_left
                  · intro w'
                    go_simp
                    with_reducible rfl
                  rotate_left
                  · simp only [Act.put, List.setIfInBounds_toArray, List.set_cons_zero, List.set_cons_succ, i64_w, i32_w]
                    rfl
                  refine pure_ (i := 13) (N := some 183) (v := ?_) (a' := ?_) #[true, true, true, true, true, true, true, true, true, true, true, true, true, true, false, false, false, false, false, false, false, false, false, false, false, false, false, false, false, false] rfl rfl (by kernel_rfl) (fun _ _ _ h => h) (Or.inl ⟨by rfl, ?_⟩) ?_ ?_
                  rotate_left
                  · intro w'
                    go_simp
                    with_reducible rfl
                  rotate_left
                  · simp only [Act.put, List.setIfInBounds_toArray, List.set_cons_zero, List.set_cons_succ, i64_w, i32_w]
                    rfl
                  refine pure_ (i := 14) (N := some 184) (v := ?_) (a' := ?_) #[true, true, true, true, true, true, true, true, true, true, true, true, true, true, true, false, false, false, false, false, false, false, false, false, false, false, false, false, false, false] rfl rfl (by kernel_rfl) (fun _ _ _ h => h) (Or.inl ⟨by rfl, ?_⟩) ?_ ?_
                  rotate_left
                  · intro w'
                    go_simp
                    with_reducible rfl
                  rotate_left
                  · simp only [Act.put, List.setIfInBounds_toArray, List.set_cons_zero, List.set_cons_succ, i64_w, i32_w]
                    rfl
                  refine pure_ (i := 15) (N := some 185) (v := ?_) (a' := ?_) #[true, true, true, true, true, true, true, true, true, true, true, true, true, true, true, true, false, false, false, false, false, false, false, false, false, false, false, false, false, false] rfl rfl (by kernel_rfl) (fun _ _ _ h => h) (Or.inl ⟨by rfl, ?_⟩) ?_ ?_
                  rotate_left
                  · intro w'
                    go_simp
                    with_reducible rfl
                  rotate_left
                  · simp only [Act.put, List.setIfInBounds_toArray, List.set_cons_zero, List.set_cons_succ, i64_w, i32_w]
                    rfl
                  refine pure_ (i := 17) (N := some 187) (v := ?_) (a' := ?_) #[true, true, true, true, true, true, true, true, true, true, true, true, true, true, true, true, false, true, false, false, false, false, false, false, false, false, false, false, false, false] rfl rfl (by kernel_rfl) (fun _ _ _ h => h) (Or.inl ⟨by rfl, ?_⟩) ?_ ?_
                  rotate_left
                  · intro w'
                    go_simp
                    with_reducible rfl
                  rotate_left
                  · simp only [Act.put, List.setIfInBounds_toArray, List.set_cons_zero, List.set_cons_succ, i64_w, i32_w]
                    rfl
                  refine pure_ (i := 18) (N := some 188) (v := ?_) (a' := ?_) #[true, true, true, true, true, true, true, true, true, true, true, true, true, true, true, true, false, true, true, false, false, false, false, false, false, false, false, false, false, false] rfl rfl (by kernel_rfl) (fun _ _ _ h => h) (Or.inl ⟨by rfl, ?_⟩) ?_ ?_
                  rotate_left
                  · intro w'
                    go_simp
                    with_reducible rfl
                  rotate_left
                  · simp only [Act.put, List.setIfInBounds_toArray, List.set_cons_zero, List.set_cons_succ, i64_w, i32_w]
                    rfl
                  refine pure_ (i := 19) (N := some 189) (v := ?_) (a' := ?_) #[true, true, true, true, true, true, true, true, true, true, true, true, true, true, true, true, false, true, true, true, false, false, false, false, false, false, false, false, false, false] rfl rfl (by kernel_rfl) (fun _ _ _ h => h) (Or.inl ⟨by rfl, ?_⟩) ?_ ?_
                  rotate_left
                  · intro w'
                    go_simp
                    with_reducible rfl
                  rotate_left
                  · simp only [Act.put, List.setIfInBounds_toArray, List.set_cons_zero, List.set_cons_succ, i64_w, i32_w]
                    rfl
                  refine pure_ (i := 20) (N := some 190) (v := ?_) (a' := ?_) #[true, true, true, true, true, true, true, true, true, true, true, true, true, true, true, true, false, true, true, true, true, false, false, false, false, false, false, false, false, false] rfl rfl (by kernel_rfl) (fun _ _ _ h => h) (Or.inl ⟨by rfl, ?_⟩) ?_ ?_
                  rotate_left
                  · intro w'
                    go_simp
                    with_reducible rfl
                  rotate_left
                  · simp only [Act.put, List.setIfInBounds_toArray, List.set_cons_zero, List.set_cons_succ, i64_w, i32_w]
                    rfl
                  refine pure_ (i := 22) (N := some 192) (v := ?_) (a' := ?_) #[true, true, true, true, true, true, true, true, true, true, true, true, true, true, true, true, false, true, true, true, true, false, true, false, false, false, false, false, false, false] rfl rfl (by kernel_rfl) (fun _ _ _ h => h) (Or.inl ⟨by rfl, ?_⟩) ?_ ?_
                  rotate_left
                  · intro w'
                    go_simp
                    with_reducible rfl
                  rotate_left
                  · simp only [Act.put, List.setIfInBounds_toArray, List.set_cons_zero, List.set_cons_succ, i64_w, i32_w]
                    rfl
                  refine take_ (i := 16) (N := some 186) (v := ?_) (a' := ?_) #[true, true, true, true, true, true, true, true, true, true, true, true, true, true, true, true, true, true, true, true, true, false, true, false, false, false, false, false, false, false] rfl rfl (by kernel_rfl) (fun _ _ _ h => h) (Or.inl ⟨by rfl, ?_⟩) hHeld ?_ ?_
                  rotate_left
                  · rintro w' ⟨s0, s1, s2, s3⟩
                    have d2_ := (blk_cell s0 3).trans (show _ = some (Value.slice Q nx q) from rfl)
                    go_simp
                    with_reducible rfl
                  rotate_left
                  · simp only [Act.put, List.setIfInBounds_toArray, List.set_cons_zero, List.set_cons_succ, i64_w, i32_w]
                    rfl
                  refine take_ (i := 21) (N := some 191) (v := ?_) (a' := ?_) #[true, true, true, true, true, true, true, true, true, true, true, true, true, true, true, true, true, true, true, true, true, true, true, false, false, false, false, false, false, false] rfl rfl (by kernel_rfl) (fun _ _ _ h => h) (Or.inl ⟨by rfl, ?_⟩) hHeld ?_ ?_
                  rotate_left
                  · rintro w' ⟨s0, s1, s2, s3⟩
                    go_simp
                    with_reducible rfl
                  rotate_left
                  · simp only [Act.put, List.setIfInBounds_toArray, List.set_cons_zero, List.set_cons_succ, i64_w, i32_w]
                    rfl
                  refine one_ (i := 23) (N := some 193) #[true, true, true, true, true, true, true, true, true, true, true, true, true, true, true, true, true, true, true, true, true, true, true, true, false, false, false, false, false, false] rfl rfl (by kernel_rfl) (by decide) (fun K hK => ?_)
                  refine goes_ Try.func46 (by kernel_rfl) rfl #[.slice Q nx q, .slice A5 R0.length c5, .int .i64 (kept : Int)] (by rfl) rfl rfl (by first | rfl | (simp; done) | (simp only [List.map_toArray, List.map_cons, List.map_nil]; rfl)) ?_
                  with_reducible refine (between_calls Q q A5 c5 nx R0.length X R0 kept jj HXN.out rfl HXT.out HJT.out.2 HJT.out.1 _ (Kd.C_below HQX.out.2 hHeld.2.2.2) (HXN.out ▸ HQX.out.1) (Kd.C_below HR0.out.2 hHeld.2.2.2) HR0.out.1).mono ?_
                  rintro e w9 ⟨rfl, hb⟩
                  refine ⟨_, rfl, ?_⟩
                  refine hK.out _ _ ⟨blk_below hHeld.1 (hb), ((hb).cell (p := ⟨g1, i, none⟩) (World.block_lt_of_cell? _ ⟨g1, i, none⟩ hHeld.2.1)).trans hHeld.2.1, ((hb).cell (p := ⟨g2, i, none⟩) (World.block_lt_of_cell? _ ⟨g2, i, none⟩ hHeld.2.2.1)).trans hHeld.2.2.1, below_step hHeld.2.2.2 (hb)⟩ (fun hHeld => ?_)
                  clear hK K
                  refine norm_ (a' := ?_) ?_ ?_
                  rotate_left
                  · show Act.put _ (some 193) _ = _
                    simp only [Act.put, List.setIfInBounds_toArray, List.set_cons_zero, List.set_cons_succ, i64_w, i32_w]
                    rfl
                  refine pure_ (i := 24) (N := some 194) (v := ?_) (a' := ?_) #[true, true, true, true, true, true, true, true, true, true, true, true, true, true, true, true, true, true, true, true, true, true, true, true, true, false, false, false, false, false] rfl rfl (by kernel_rfl) (fun _ _ _ h => h) (Or.inl ⟨by rfl, ?_⟩) ?_ ?_
                  rotate_left
                  · intro w'
                    go_simp
                    with_reducible rfl
                  rotate_left
                  · simp only [Act.put, List.setIfInBounds_toArray, List.set_cons_zero, List.set_cons_succ, i64_w, i32_w]
                    rfl
                  refine pure_ (i := 25) (N := some 195) (v := ?_) (a' := ?_) #[true, true, true, true, true, true, true, true, true, true, true, true, true, true, true, true, true, true, true, true, true, true, true, true, true, true, false, false, false, false] rfl rfl (by kernel_rfl) (fun _ _ _ h => h) (Or.inl ⟨by rfl, ?_⟩) ?_ ?_
                  rotate_left
                  · intro w'
                    go_simp
                    with_reducible rfl
                  rotate_left
                  · simp only [Act.put, List.setIfInBounds_toArray, List.set_cons_zero, List.set_cons_succ, i64_w, i32_w]
                    rfl
                  refine pure_ (i := 26) (N := some 196) (v := ?_) (a' := ?_) #[true, true, true, true, true, true, true, true, true, true, true, true, true, true, true, true, true, true, true, true, true, true, true, true, true, true, true, false, false, false] rfl rfl (by kernel_rfl) (fun _ _ _ h => h) (Or.inl ⟨by rfl, ?_⟩) ?_ ?_
                  rotate_left
                  · intro w'
                    go_simp
                    with_reducible rfl
                  rotate_left
                  · simp only [Act.put, List.setIfInBounds_toArray, List.set_cons_zero, List.set_cons_succ, i64_w, i32_w]
                    rfl
                  refine one_ (i := 27) (N := some 197) #[true, true, true, true, true, true, true, true, true, true, true, true, true, true, true, true, true, true, true, true, true, true, true, true, true, true, true, true, false, false] rfl rfl (by kernel_rfl) (by decide) (fun K hK => ?_)
                  refine goes_ Try.func31 (by kernel_rfl) rfl #[] (by rfl) rfl rfl (by first | rfl | (simp; done) | (simp only [List.map_toArray, List.map_cons, List.map_nil]; rfl)) ?_
                  with_reducible refine (Tp.awake_calls _).mono ?_
                  rintro e w10 ⟨rfl, hb⟩
                  refine ⟨_, rfl, ?_⟩
                  refine hK.out _ _ ⟨blk_below hHeld.1 (hb), ((hb).cell (p := ⟨g1, i, none⟩) (World.block_lt_of_cell? _ ⟨g1, i, none⟩ hHeld.2.1)).trans hHeld.2.1, ((hb).cell (p := ⟨g2, i, none⟩) (World.block_lt_of_cell? _ ⟨g2, i, none⟩ hHeld.2.2.1)).trans hHeld.2.2.1, below_step hHeld.2.2.2 (hb)⟩ (fun hHeld => ?_)
                  clear hK K
                  refine norm_ (a' := ?_) ?_ ?_
                  rotate_left
                  · show Act.put _ (some 197) _ = _
                    simp only [Act.put, List.setIfInBounds_toArray, List.set_cons_zero, List.set_cons_succ, i64_w, i32_w]
                    rfl
                  refine pure_ (i := 28) (N := some 198) (v := ?_) (a' := ?_) #[true, true, true, true, true, true, true, true, true, true, true, true, true, true, true, true, true, true, true, true, true, true, true, true, true, true, true, true, true, false] rfl rfl (by kernel_rfl) (fun _ _ _ h => h) (Or.inl ⟨by rfl, ?_⟩) ?_ ?_
                  rotate_left
                  · intro w'
                    go_simp
                    with_reducible rfl
                  rotate_left
                  · simp only [Act.put, List.setIfInBounds_toArray, List.set_cons_zero, List.set_cons_succ, i64_w, i32_w]
                    rfl
                  refine pure_ (i := 29) (N := some 6) (v := ?_) (a' := ?_) #[true, true, true, true, true, true, true, true, true, true, true, true, true, true, true, true, true, true, true, true, true, true, true, true, true, true, true, true, true, true] rfl rfl (by kernel_rfl) (fun _ _ _ h => h) (Or.inl ⟨by rfl, ?_⟩) ?_ ?_
                  rotate_left
                  · intro w'
                    go_simp
                    with_reducible rfl
                  rotate_left
                  · simp only [Act.put, List.setIfInBounds_toArray, List.set_cons_zero, List.set_cons_succ, i64_w, i32_w]
                    rfl
                  refine done_ (by kernel_rfl) ?_
                  go_wp2_with (fail)
                  go_ret
                  exact ⟨rfl, below_step HW7.out hHeld.2.2.2⟩
              · have d1 : (Go.bits .and .i64 op 7 == (5 : Int)) = false := by rw [HOO]; simpa using c5
                have d2 : decide (Go.bits .and .i64 op 7 = (5 : Int)) = false := by rw [HOO]; exact decide_eq_false c5
                have HFE := Aside0.mk (HE1.out rfl c5)
                clear HOO c5 HE0 HE1 HE2 HO
                go_wp2_with (fail)
                go_meet
                exact ⟨G', SB', SR', z', s', BS', RS', _, _, _, _, _, _, kept, true, rfl, rfl, rfl, rfl, HKW', HOK', HBS', HRM', ⟨by have := HBL'.out; have := HJS.out; omega⟩, ⟨fun e => by cases e⟩, ⟨fun _ => HFE.out⟩⟩
            · have e1 : (er == (50 : Int)) = false := by simpa using c0
              have e2 : decide (er = (50 : Int)) = false := decide_eq_false c0
              obtain ⟨hkp, hla, rfl⟩ := HE0.out c0
              have HKP' := Aside0.mk hkp
              have HLA' := Aside0.mk hla
              clear c0 HE0 HE1 HE2 hkp hla
              go_wp2_with (fail)
              rw [HWJ.out]
              go_roundg (gko - 1)
              case rel => exact ⟨j + 1, G', SB', SR', z', s', BS', RS', _, _, _, _, _, _, by have := HJF.out; have := HJL.out; omega, rfl, rfl, rfl, rfl, rfl, HKW', HOK', HBS', HKP', HLA', ⟨by have := HBL'.out; omega⟩⟩
              case measure => have := HJF.out; have := HJL.out; omega
        · obtain rfl : j = l0.length := by omega
          have e1 : decide ((l0.length : Int) < (l0.length : Int)) = false := decide_eq_false (by omega)
          clear hlt
          have HL60 := Aside0.mk HSM.out.1
          go_wp2_with (fail)
          go_meet
          exact ⟨G, SB, SR, z, s, BS, RS, _, _, _, _, _, _, _, _, rfl, rfl, rfl, rfl, HKW, HOK, HBS, ⟨HKP.out.room⟩, ⟨by have := HBL.out; have := HL60.out; omega⟩, ⟨fun _ => ⟨HKP.out.mono (by have := HL60.out; omega), rfl, HLA.out⟩⟩, ⟨fun e => by cases e⟩⟩
    case rest =>
      obtain ⟨G, SB, SR, z, s, BS, RS, Ab, Ar, nb, nr, cb, cr, kept, down, rfl, rfl, rfl, rfl, HKW, HOK, HBS, HRM, HBL, HD0, HD1⟩ := hcut
      cases down with
      | false => as_aux_lemma =>
        obtain ⟨hkp, rfl, hla⟩ := HD0.out rfl
        have HCR := Aside0.mk (show crashP s l2 = (fallP s l2, 0) by
          unfold crashP
          have h0 : ableP s 0 = 0 := Dk.able_on (j := 0) (by decide) (by rw [HRM.out]; decide) hkp.on
          rw [if_neg (fun e => e h0)])
        have HFE := Aside0.mk (show Fell (fallP s l2) z.kept BS RS from ⟨_, _, _, _, _, hla, hkp.aft (by decide) l2, Nat.le_refl _⟩)
        have HOK2 := Aside0.mk (show Okk (fallP s l2) by have := HOK.out.crash l2; rw [HCR.out] at this; exact this)
        have HBS2 := Aside0.mk (show BsD (fallP s l2) by have := HBS.out.crash l2; rw [HCR.out] at this; exact this)
        have HRM2 := Aside0.mk (show (fallP s l2).room = 2097152 from HRM.out)
        clear hkp hla HD0 HD1
        go_wp2_with (fail)
        refine (Crash_calls G b s _ l2 _ HKW.out.dd HOK.out ((Rw.came (G := fun b_ => b_ = b) HC2.out.2 HC2.out.1 (fun k_ e => e ▸ HBT.out.1)).below HKW.out.w) HK2.out).mono ?_
        rw [HCR.out]
        rintro e w5 ⟨rfl, hD, hW⟩
        have n1 := Aside0.mk (HKW.out.act (HKW.out.tt.wr hW HKW.out.dd.gg (fun e => HNE.out e.symm)) hD (Ws.of_wr hW (.inr rfl)))
        clear HKW HOK HBS HRM HCR hD hW
        obtain ⟨HKW, HOK, HBS, HRM⟩ := And.intro n1 (And.intro HOK2 (And.intro HBS2 HRM2))
        clear n1 HOK2 HBS2 HRM2
        generalize fallP s l2 = s at *
        obtain ⟨kept, hkept⟩ : ∃ q, z.kept = q := ⟨_, rfl⟩
        rw [hkept] at HFE ⊢
        clear hkept
        obtain ⟨i, x, s'', R0, jj, q1, q2, q3, q4, q5, q6, q7, ho⟩ := HFE.out.opens
        have HLL := Aside0.mk (And.intro q1 q2)
        have HL3 := Aside0.mk q3
        have HL4 := Aside0.mk q4
        have HOP := Aside0.mk ho
        have HJT := Aside0.mk (And.intro q6 q7)
        clear HFE q1 q2 q3 q4 q6 q7 ho
        go_wp2_with (fail)
        refine (reopened_calls G b s s'' x _ HKW.out.dd (by rw [HRM.out]; decide) (by have := HOK.out.start; rw [Dk.start_eq (by rw [HRM.out]; decide)] at this; exact this) HBS.out HOP.out).mono ?_
        rintro e w7 ⟨Q, q, rfl, hR, hW⟩
        obtain ⟨hB7, hR7, hW7⟩ := HKW.out.rows hW
        obtain ⟨b0, hb0⟩ : ∃ b0, strOfNums x.r.base = b0 := ⟨_, rfl⟩
        obtain ⟨X, hX⟩ : ∃ X, x.r.l.map strOfNums = X := ⟨_, rfl⟩
        obtain ⟨nx, hnx⟩ : ∃ nx, x.r.l.length = nx := ⟨_, rfl⟩
        rw [hX, hnx] at hR
        rw [hX] at q5
        rw [hb0] at HL3
        rw [hb0, hnx]
        have HXN := Aside0.mk (show nx = X.length by rw [← hnx, ← hX, List.length_map])
        have HXT := Aside0.mk q5
        have HQ7 := Aside0.mk (And.intro (Kd.R_reads' hR).2.1 (Kd.R_reads' hR).2.2)
        obtain ⟨g1, e1, h1⟩ := R_str_at hB7 i b0 HL3.out
        obtain ⟨g2, A5, c5, e2, _, _, hnr, h2, _, _, hr0, _⟩ := KdS_at hR7 i R0 HL4.out
        subst e1 e2
        have hnb := (Kd.R_reads' hB7).1
        have hkx := blk_new w7 (.cells #[.pointer none, .int .i64 0, .string b0, .slice Q nx q, .int .i64 0, .int .i64 0] 92)
        have hbx := below_alloc (Below.refl w7.heap.size w7) (.cells #[.pointer none, .int .i64 0, .string b0, .slice Q nx q, .int .i64 0, .int .i64 0] 92)
        have HHX := Aside0.mk hkx
        have HBX0 := Aside0.mk hbx
        have HH1 := Aside0.mk h1
        have HH2 := Aside0.mk h2
        have HRR0 := Aside0.mk (And.intro (Kd.R_reads' hr0).2.1 (Kd.R_reads' hr0).2.2)
        have HW7 := Aside0.mk (below_step hW7 hbx)
        have HWM := Aside0.mk (show wrap64 ((nr : Int) - 1) = (i : Int) by have := HLL.out.2; have := HBL.out; have := HLL.out.1; unfold wrap64; omega)
        have HMI := Aside0.mk (show (i : Int) < (nb : Int) ∧ (i : Int) < (nr : Int) by have := HLL.out; omega)
        clear hkx hbx h1 h2 hr0 hW7 hR hW hB7 hR7 hX hnx hb0 hnr hnb q5
        go_upto_region 40 with (fail)
        obtain ⟨kx, hkx⟩ : ∃ kx, w7.heap.size = kx := ⟨_, rfl⟩
        rw [hkx] at HHX ⊢
        obtain ⟨w8, hw8⟩ : ∃ w8, w7.alloc (.cells #[.pointer none, .int .i64 0, .string b0, .slice Q nx q, .int .i64 0, .int .i64 0] 92) = w8 := ⟨_, rfl⟩
        rw [hw8] at HHX HBX0 HW7 ⊢
        have HBX := HHX
        have HC3 := Aside0.mk ((HBX0.out.cell (p := ⟨g1, i, none⟩) (World.block_lt_of_cell? _ _ HH1.out)).trans HH1.out)
        have HC4 := Aside0.mk ((HBX0.out.cell (p := ⟨g2, i, none⟩) (World.block_lt_of_cell? _ _ HH2.out)).trans HH2.out)
        have HQX := Aside0.mk (And.intro HQ7.out.1 (Kd.C_below HQ7.out.2 HBX0.out))
        have HR0 := Aside0.mk (And.intro HRR0.out.1 (Kd.C_below HRR0.out.2 HBX0.out))
        clear HHX HBX0 HH1 HH2 HQ7 HRR0 hw8 hkx
        have hi0 : (0 : Int) ≤ (i : Int) := by omega
        have hi1 : (i : Int) < (nb : Int) := HMI.out.1
        have hi2 : (i : Int) < (nr : Int) := HMI.out.2
        have hs3 : (b0.toList == b0.toList) = true := beq_self_eq_true _
        have hs4 : (b0 == b0) = true := str_beq rfl
        go_wp2_with (fail)
        rw [HWM.out]
        refine start_ (n := 25) (S := fun w' => w'.heap[kx]? = some (.cells #[.pointer none, .int .i64 0, .string b0, .slice Q nx q, .int .i64 0, .int .i64 0] 92 (0, 0)) ∧ w'.cell? ⟨g1, i, none⟩ = some (Value.string b0) ∧ w'.cell? ⟨g2, i, none⟩ = some (Value.slice A5 R0.length c5) ∧ Below w8.heap.size w8 w') (ds := []) #[false, false, false, false, false, false, false, false, false, false, false, false, false, false, false, false, false, false, false, false, false, false, false, false, false] (by kernel_rfl) rfl rfl ⟨blk_below HBX.out (below_drew1 (Below.refl w8.heap.size w8)), ((below_drew1 (Below.refl w8.heap.size w8)).cell (p := ⟨g1, i, none⟩) (World.block_lt_of_cell? _ ⟨g1, i, none⟩ HC3.out)).trans HC3.out, ((below_drew1 (Below.refl w8.heap.size w8)).cell (p := ⟨g2, i, none⟩) (World.block_lt_of_cell? _ ⟨g2, i, none⟩ HC4.out)).trans HC4.out, below_drew1 (Below.refl w8.heap.size w8)⟩ (fun hHeld => ?_)
        refine pure_ (i := 0) (N := some 213) (v := ?_) (a' := ?_) #[true, false, false, false, false, false, false, false, false, false, false, false, false, false, false, false, false, false, false, false, false, false, false, false, false] rfl rfl (by kernel_rfl) (fun _ _ _ h => h) (Or.inl ⟨by rfl, ?_⟩) ?_ ?_
        rotate_left
        · intro w'
          go_simp
          with_reducible rfl
        rotate_left
        · simp only [Act.put, List.setIfInBounds_toArray, List.set_cons_zero, List.set_cons_succ, i64_w, i32_w]
          rfl
        refine pure_ (i := 1) (N := some 214) (v := ?_) (a' := ?_) #[true, true, false, false, false, false, false, false, false, false, false, false, false, false, false, false, false, false, false, false, false, false, false, false, false] rfl rfl (by kernel_rfl) (fun _ _ _ h => h) (Or.inl ⟨by rfl, ?_⟩) ?_ ?_
        rotate_left
        · intro w'
          go_simp
          with_reducible rfl
        rotate_left
        · simp only [Act.put, List.setIfInBounds_toArray, List.set_cons_zero, List.set_cons_succ, i64_w, i32_w]
          rfl
        refine pure_ (i := 2) (N := some 215) (v := ?_) (a' := ?_) #[true, true, true, false, false, false, false, false, false, false, false, false, false, false, false, false, false, false, false, false, false, false, false, false, false] rfl rfl (by kernel_rfl) (fun _ _ _ h => h) (Or.inl ⟨by rfl, ?_⟩) ?_ ?_
        rotate_left
        · intro w'
          go_simp
          with_reducible rfl
        rotate_left
        · simp only [Act.put, List.setIfInBounds_toArray, List.set_cons_zero, List.set_cons_succ, i64_w, i32_w]
          rfl
        refine pure_ (i := 3) (N := some 216) (v := ?_) (a' := ?_) #[true, true, true, true, false, false, false, false, false, false, false, false, false, false, false, false, false, false, false, false, false, false, false, false, false] rfl rfl (by kernel_rfl) (fun _ _ _ h => h) (Or.inl ⟨by rfl, ?_⟩) ?_ ?_
        rotate_left
        · intro w'
          go_simp
          with_reducible rfl
        rotate_left
        · simp only [Act.put, List.setIfInBounds_toArray, List.set_cons_zero, List.set_cons_succ, i64_w, i32_w]
          rfl
        refine pure_ (i := 5) (N := some 218) (v := ?_) (a' := ?_) #[true, true, true, true, false, true, false, false, false, false, false, false, false, false, false, false, false, false, false, false, false, false, false, false, false] rfl rfl (by kernel_rfl) (fun _ _ _ h => h) (Or.inl ⟨by rfl, ?_⟩) ?_ ?_
        rotate_left
        · intro w'
          go_simp
          with_reducible rfl
        rotate_left
        · simp only [Act.put, List.setIfInBounds_toArray, List.set_cons_zero, List.set_cons_succ, i64_w, i32_w]
          rfl
        refine pure_ (i := 6) (N := some 219) (v := ?_) (a' := ?_) #[true, true, true, true, false, true, true, false, false, false, false, false, false, false, false, false, false, false, false, false, false, false, false, false, false] rfl rfl (by kernel_rfl) (fun _ _ _ h => h) (Or.inl ⟨by rfl, ?_⟩) ?_ ?_
        rotate_left
        · intro w'
          go_simp
          with_reducible rfl
        rotate_left
        · simp only [Act.put, List.setIfInBounds_toArray, List.set_cons_zero, List.set_cons_succ, i64_w, i32_w]
          rfl
        refine pure_ (i := 7) (N := some 220) (v := ?_) (a' := ?_) #[true, true, true, true, false, true, true, true, false, false, false, false, false, false, false, false, false, false, false, false, false, false, false, false, false] rfl rfl (by kernel_rfl) (fun _ _ _ h => h) (Or.inl ⟨by rfl, ?_⟩) ?_ ?_
        rotate_left
        · intro w'
          go_simp
          with_reducible rfl
        rotate_left
        · simp only [Act.put, List.setIfInBounds_toArray, List.set_cons_zero, List.set_cons_succ, i64_w, i32_w]
          rfl
        refine take_ (i := 4) (N := some 217) (v := ?_) (a' := ?_) #[true, true, true, true, true, true, true, true, false, false, false, false, false, false, false, false, false, false, false, false, false, false, false, false, false] rfl rfl (by kernel_rfl) (fun _ _ _ h => h) (Or.inl ⟨by rfl, ?_⟩) hHeld ?_ ?_
        rotate_left
        · rintro w' ⟨s0, s1, s2, s3⟩
          have d2_ := (blk_cell s0 2).trans (show _ = some (Value.string b0) from rfl)
          go_simp
          with_reducible rfl
        rotate_left
        · simp only [Act.put, List.setIfInBounds_toArray, List.set_cons_zero, List.set_cons_succ, i64_w, i32_w]
          rfl
        refine take_ (i := 8) (N := some 221) (v := ?_) (a' := ?_) #[true, true, true, true, true, true, true, true, true, false, false, false, false, false, false, false, false, false, false, false, false, false, false, false, false] rfl rfl (by kernel_rfl) (fun _ _ _ h => h) (Or.inl ⟨by rfl, ?_⟩) hHeld ?_ ?_
        rotate_left
        · rintro w' ⟨s0, s1, s2, s3⟩
          go_simp
          with_reducible rfl
        rotate_left
        · simp only [Act.put, List.setIfInBounds_toArray, List.set_cons_zero, List.set_cons_succ, i64_w, i32_w]
          rfl
        refine pure_ (i := 9) (N := some 222) (v := ?_) (a' := ?_) #[true, true, true, true, true, true, true, true, true, true, false, false, false, false, false, false, false, false, false, false, false, false, false, false, false] rfl rfl (by kernel_rfl) (fun _ _ _ h => h) (Or.inl ⟨by rfl, ?_⟩) ?_ ?_
        rotate_left
        · intro w'
          go_simp
          with_reducible rfl
        rotate_left
        · simp only [Act.put, List.setIfInBounds_toArray, List.set_cons_zero, List.set_cons_succ, i64_w, i32_w]
          rfl
        refine pure_ (i := 10) (N := some 223) (v := ?_) (a' := ?_) #[true, true, true, true, true, true, true, true, true, true, true, false, false, false, false, false, false, false, false, false, false, false, false, false, false] rfl rfl (by kernel_rfl) (fun _ _ _ h => h) (Or.inl ⟨by rfl, ?_⟩) ?_ ?_
        rotate_left
        · intro w'
          go_simp
          with_reducible rfl
        rotate_left
        · simp only [Act.put, List.setIfInBounds_toArray, List.set_cons_zero, List.set_cons_succ, i64_w, i32_w]
          rfl
        refine pure_ (i := 11) (N := some 224) (v := ?_) (a' := ?_) #[true, true, true, true, true, true, true, true, true, true, true, true, false, false, false, false, false, false, false, false, false, false, false, false, false] rfl rfl (by kernel_rfl) (fun _ _ _ h => h) (Or.inl ⟨by rfl, ?_⟩) ?_ ?_
        rotate_left
        · intro w'
          go_simp
          with_reducible rfl
        rotate_left
        · simp only [Act.put, List.setIfInBounds_toArray, List.set_cons_zero, List.set_cons_succ, i64_w, i32_w]
          rfl
        refine pure_ (i := 12) (N := some 225) (v := ?_) (a' := ?_) #[true, true, true, true, true, true, true, true, true, true, true, true, true, false, false, false, false, false, false, false, false, false, false, false, false] rfl rfl (by kernel_rfl) (fun _ _ _ h => h) (Or.inl ⟨by rfl, ?_⟩) ?_ ?_
        rotate_left
        · intro w'
          go_simp
          with_reducible rfl
        rotate_left
        · simp only [Act.put, List.setIfInBounds_toArray, List.set_cons_zero, List.set_cons_succ, i64_w, i32_w]
          rfl
        refine pure_ (i := 14) (N := some 227) (v := ?_) (a' := ?_) #[true, true, true, true, true, true, true, true, true, true, true, true, true, false, true, false, false, false, false, false, false, false, false, false, false] rfl rfl (by kernel_rfl) (fun _ _ _ h => h) (Or.inl ⟨by rfl, ?_⟩) ?_ ?_
        rotate_left
        · intro w'
          go_simp
          with_reducible rfl
        rotate_left
        · simp only [Act.put, List.setIfInBounds_toArray, List.set_cons_zero, List.set_cons_succ, i64_w, i32_w]
          rfl
        refine pure_ (i := 15) (N := some 228) (v := ?_) (a' := ?_) #[true, true, true, true, true, true, true, true, true, true, true, true, true, false, true, true, false, false, false, false, false, false, false, false, false] rfl rfl (by kernel_rfl) (fun _ _ _ h => h) (Or.inl ⟨by rfl, ?_⟩) ?_ ?_
        rotate_left
        · intro w'
          go_simp
          with_reducible rfl
        rotate_left
        · simp only [Act.put, List.setIfInBounds_toArray, List.set_cons_zero, List.set_cons_succ, i64_w, i32_w]
          rfl
        refine pure_ (i := 16) (N := some 229) (v := ?_) (a' := ?_) #[true, true, true, true, true, true, true, true, true, true, true, true, true, false, true, true, true, false, false, false, false, false, false, false, false] rfl rfl (by kernel_rfl) (fun _ _ _ h => h) (Or.inl ⟨by rfl, ?_⟩) ?_ ?_
        rotate_left
        · intro w'
          go_simp
          with_reducible rfl
        rotate_left
        · simp only [Act.put, List.setIfInBounds_toArray, List.set_cons_zero, List.set_cons_succ, i64_w, i32_w]
          rfl
        refine pure_ (i := 18) (N := some 231) (v := ?_) (a' := ?_) #[true, true, true, true, true, true, true, true, true, true, true, true, true, false, true, true, true, false, true, false, false, false, false, false, false] rfl rfl (by kernel_rfl) (fun _ _ _ h => h) (Or.inl ⟨by rfl, ?_⟩) ?_ ?_
        rotate_left
        · intro w'
          go_simp
          with_reducible rfl
        rotate_left
        · simp only [Act.put, List.setIfInBounds_toArray, List.set_cons_zero, List.set_cons_succ, i64_w, i32_w]
          rfl
        refine take_ (i := 13) (N := some 226) (v := ?_) (a' := ?_) #[true, true, true, true, true, true, true, true, true, true, true, true, true, true, true, true, true, false, true, false, false, false, false, false, false] rfl rfl (by kernel_rfl) (fun _ _ _ h => h) (Or.inl ⟨by rfl, ?_⟩) hHeld ?_ ?_
        rotate_left
        · rintro w' ⟨s0, s1, s2, s3⟩
          have d2_ := (blk_cell s0 3).trans (show _ = some (Value.slice Q nx q) from rfl)
          go_simp
          with_reducible rfl
        rotate_left
        · simp only [Act.put, List.setIfInBounds_toArray, List.set_cons_zero, List.set_cons_succ, i64_w, i32_w]
          rfl
        refine take_ (i := 17) (N := some 230) (v := ?_) (a' := ?_) #[true, true, true, true, true, true, true, true, true, true, true, true, true, true, true, true, true, true, true, false, false, false, false, false, false] rfl rfl (by kernel_rfl) (fun _ _ _ h => h) (Or.inl ⟨by rfl, ?_⟩) hHeld ?_ ?_
        rotate_left
        · rintro w' ⟨s0, s1, s2, s3⟩
          go_simp
          with_reducible rfl
        rotate_left
        · simp only [Act.put, List.setIfInBounds_toArray, List.set_cons_zero, List.set_cons_succ, i64_w, i32_w]
          rfl
        refine one_ (i := 19) (N := some 232) #[true, true, true, true, true, true, true, true, true, true, true, true, true, true, true, true, true, true, true, true, false, false, false, false, false] rfl rfl (by kernel_rfl) (by decide) (fun K hK => ?_)
        refine goes_ Try.func46 (by kernel_rfl) rfl #[.slice Q nx q, .slice A5 R0.length c5, .int .i64 (kept : Int)] (by rfl) rfl rfl (by first | rfl | (simp; done) | (simp only [List.map_toArray, List.map_cons, List.map_nil]; rfl)) ?_
        with_reducible refine (between_calls Q q A5 c5 nx R0.length X R0 kept jj HXN.out rfl HXT.out HJT.out.2 HJT.out.1 _ (Kd.C_below HQX.out.2 hHeld.2.2.2) (HXN.out ▸ HQX.out.1) (Kd.C_below HR0.out.2 hHeld.2.2.2) HR0.out.1).mono ?_
        rintro e w9 ⟨rfl, hb⟩
        refine ⟨_, rfl, ?_⟩
        refine hK.out _ _ ⟨blk_below hHeld.1 (hb), ((hb).cell (p := ⟨g1, i, none⟩) (World.block_lt_of_cell? _ ⟨g1, i, none⟩ hHeld.2.1)).trans hHeld.2.1, ((hb).cell (p := ⟨g2, i, none⟩) (World.block_lt_of_cell? _ ⟨g2, i, none⟩ hHeld.2.2.1)).trans hHeld.2.2.1, below_step hHeld.2.2.2 (hb)⟩ (fun hHeld => ?_)
        clear hK K
        refine norm_ (a' := ?_) ?_ ?_
        rotate_left
        · show Act.put _ (some 232) _ = _
          simp only [Act.put, List.setIfInBounds_toArray, List.set_cons_zero, List.set_cons_succ, i64_w, i32_w]
          rfl
        refine pure_ (i := 20) (N := some 233) (v := ?_) (a' := ?_) #[true, true, true, true, true, true, true, true, true, true, true, true, true, true, true, true, true, true, true, true, true, false, false, false, false] rfl rfl (by kernel_rfl) (fun _ _ _ h => h) (Or.inl ⟨by rfl, ?_⟩) ?_ ?_
        rotate_left
        · intro w'
          go_simp
          with_reducible rfl
        rotate_left
        · simp only [Act.put, List.setIfInBounds_toArray, List.set_cons_zero, List.set_cons_succ, i64_w, i32_w]
          rfl
        refine pure_ (i := 21) (N := some 234) (v := ?_) (a' := ?_) #[true, true, true, true, true, true, true, true, true, true, true, true, true, true, true, true, true, true, true, true, true, true, false, false, false] rfl rfl (by kernel_rfl) (fun _ _ _ h => h) (Or.inl ⟨by rfl, ?_⟩) ?_ ?_
        rotate_left
        · intro w'
          go_simp
          with_reducible rfl
        rotate_left
        · simp only [Act.put, List.setIfInBounds_toArray, List.set_cons_zero, List.set_cons_succ, i64_w, i32_w]
          rfl
        refine one_ (i := 22) (N := some 235) #[true, true, true, true, true, true, true, true, true, true, true, true, true, true, true, true, true, true, true, true, true, true, true, false, false] rfl rfl (by kernel_rfl) (by decide) (fun K hK => ?_)
        refine goes_ Try.func31 (by kernel_rfl) rfl #[] (by rfl) rfl rfl (by first | rfl | (simp; done) | (simp only [List.map_toArray, List.map_cons, List.map_nil]; rfl)) ?_
        with_reducible refine (Tp.awake_calls _).mono ?_
        rintro e w10 ⟨rfl, hb⟩
        refine ⟨_, rfl, ?_⟩
        refine hK.out _ _ ⟨blk_below hHeld.1 (hb), ((hb).cell (p := ⟨g1, i, none⟩) (World.block_lt_of_cell? _ ⟨g1, i, none⟩ hHeld.2.1)).trans hHeld.2.1, ((hb).cell (p := ⟨g2, i, none⟩) (World.block_lt_of_cell? _ ⟨g2, i, none⟩ hHeld.2.2.1)).trans hHeld.2.2.1, below_step hHeld.2.2.2 (hb)⟩ (fun hHeld => ?_)
        clear hK K
        refine norm_ (a' := ?_) ?_ ?_
        rotate_left
        · show Act.put _ (some 235) _ = _
          simp only [Act.put, List.setIfInBounds_toArray, List.set_cons_zero, List.set_cons_succ, i64_w, i32_w]
          rfl
        refine pure_ (i := 23) (N := some 236) (v := ?_) (a' := ?_) #[true, true, true, true, true, true, true, true, true, true, true, true, true, true, true, true, true, true, true, true, true, true, true, true, false] rfl rfl (by kernel_rfl) (fun _ _ _ h => h) (Or.inl ⟨by rfl, ?_⟩) ?_ ?_
        rotate_left
        · intro w'
          go_simp
          with_reducible rfl
        rotate_left
        · simp only [Act.put, List.setIfInBounds_toArray, List.set_cons_zero, List.set_cons_succ, i64_w, i32_w]
          rfl
        refine pure_ (i := 24) (N := some 6) (v := ?_) (a' := ?_) #[true, true, true, true, true, true, true, true, true, true, true, true, true, true, true, true, true, true, true, true, true, true, true, true, true] rfl rfl (by kernel_rfl) (fun _ _ _ h => h) (Or.inl ⟨by rfl, ?_⟩) ?_ ?_
        rotate_left
        · intro w'
          go_simp
          with_reducible rfl
        rotate_left
        · simp only [Act.put, List.setIfInBounds_toArray, List.set_cons_zero, List.set_cons_succ, i64_w, i32_w]
          rfl
        refine done_ (by kernel_rfl) ?_
        go_wp2_with (fail)
        go_ret
        exact ⟨rfl, below_step HW7.out hHeld.2.2.2⟩
      | true => as_aux_lemma =>
        have HFE := Aside0.mk (HD1.out rfl)
        clear HD0 HD1
        obtain ⟨i, x, s'', R0, jj, q1, q2, q3, q4, q5, q6, q7, ho⟩ := HFE.out.opens
        have HLL := Aside0.mk (And.intro q1 q2)
        have HL3 := Aside0.mk q3
        have HL4 := Aside0.mk q4
        have HOP := Aside0.mk ho
        have HJT := Aside0.mk (And.intro q6 q7)
        clear HFE q1 q2 q3 q4 q6 q7 ho
        go_wp2_with (fail)
        refine (reopened_calls G b s s'' x _ HKW.out.dd (by rw [HRM.out]; decide) (by have := HOK.out.start; rw [Dk.start_eq (by rw [HRM.out]; decide)] at this; exact this) HBS.out HOP.out).mono ?_
        rintro e w7 ⟨Q, q, rfl, hR, hW⟩
        obtain ⟨hB7, hR7, hW7⟩ := HKW.out.rows hW
        obtain ⟨b0, hb0⟩ : ∃ b0, strOfNums x.r.base = b0 := ⟨_, rfl⟩
        obtain ⟨X, hX⟩ : ∃ X, x.r.l.map strOfNums = X := ⟨_, rfl⟩
        obtain ⟨nx, hnx⟩ : ∃ nx, x.r.l.length = nx := ⟨_, rfl⟩
        rw [hX, hnx] at hR
        rw [hX] at q5
        rw [hb0] at HL3
        rw [hb0, hnx]
        have HXN := Aside0.mk (show nx = X.length by rw [← hnx, ← hX, List.length_map])
        have HXT := Aside0.mk q5
        have HQ7 := Aside0.mk (And.intro (Kd.R_reads' hR).2.1 (Kd.R_reads' hR).2.2)
        obtain ⟨g1, e1, h1⟩ := R_str_at hB7 i b0 HL3.out
        obtain ⟨g2, A5, c5, e2, _, _, hnr, h2, _, _, hr0, _⟩ := KdS_at hR7 i R0 HL4.out
        subst e1 e2
        have hnb := (Kd.R_reads' hB7).1
        have hkx := blk_new w7 (.cells #[.pointer none, .int .i64 0, .string b0, .slice Q nx q, .int .i64 0, .int .i64 0] 92)
        have hbx := below_alloc (Below.refl w7.heap.size w7) (.cells #[.pointer none, .int .i64 0, .string b0, .slice Q nx q, .int .i64 0, .int .i64 0] 92)
        have HHX := Aside0.mk hkx
        have HBX0 := Aside0.mk hbx
        have HH1 := Aside0.mk h1
        have HH2 := Aside0.mk h2
        have HRR0 := Aside0.mk (And.intro (Kd.R_reads' hr0).2.1 (Kd.R_reads' hr0).2.2)
        have HW7 := Aside0.mk (below_step hW7 hbx)
        have HWM := Aside0.mk (show wrap64 ((nr : Int) - 1) = (i : Int) by have := HLL.out.2; have := HBL.out; have := HLL.out.1; unfold wrap64; omega)
        have HMI := Aside0.mk (show (i : Int) < (nb : Int) ∧ (i : Int) < (nr : Int) by have := HLL.out; omega)
        clear hkx hbx h1 h2 hr0 hW7 hR hW hB7 hR7 hX hnx hb0 hnr hnb q5
        go_upto_region 40 with (fail)
        obtain ⟨kx, hkx⟩ : ∃ kx, w7.heap.size = kx := ⟨_, rfl⟩
        rw [hkx] at HHX ⊢
        obtain ⟨w8, hw8⟩ : ∃ w8, w7.alloc (.cells #[.pointer none, .int .i64 0, .string b0, .slice Q nx q, .int .i64 0, .int .i64 0] 92) = w8 := ⟨_, rfl⟩
        rw [hw8] at HHX HBX0 HW7 ⊢
        have HBX := HHX
        have HC3 := Aside0.mk ((HBX0.out.cell (p := ⟨g1, i, none⟩) (World.block_lt_of_cell? _ _ HH1.out)).trans HH1.out)
        have HC4 := Aside0.mk ((HBX0.out.cell (p := ⟨g2, i, none⟩) (World.block_lt_of_cell? _ _ HH2.out)).trans HH2.out)
        have HQX := Aside0.mk (And.intro HQ7.out.1 (Kd.C_below HQ7.out.2 HBX0.out))
        have HR0 := Aside0.mk (And.intro HRR0.out.1 (Kd.C_below HRR0.out.2 HBX0.out))
        clear HHX HBX0 HH1 HH2 HQ7 HRR0 hw8 hkx
        have hi0 : (0 : Int) ≤ (i : Int) := by omega
        have hi1 : (i : Int) < (nb : Int) := HMI.out.1
        have hi2 : (i : Int) < (nr : Int) := HMI.out.2
        have hs3 : (b0.toList == b0.toList) = true := beq_self_eq_true _
        have hs4 : (b0 == b0) = true := str_beq rfl
        go_wp2_with (fail)
        rw [HWM.out]
        refine start_ (n := 25) (S := fun w' => w'.heap[kx]? = some (.cells #[.pointer none, .int .i64 0, .string b0, .slice Q nx q, .int .i64 0, .int .i64 0] 92 (0, 0)) ∧ w'.cell? ⟨g1, i, none⟩ = some (Value.string b0) ∧ w'.cell? ⟨g2, i, none⟩ = some (Value.slice A5 R0.length c5) ∧ Below w8.heap.size w8 w') (ds := []) #[false, false, false, false, false, false, false, false, false, false, false, false, false, false, false, false, false, false, false, false, false, false, false, false, false] (by kernel_rfl) rfl rfl ⟨blk_below HBX.out (below_drew1 (Below.refl w8.heap.size w8)), ((below_drew1 (Below.refl w8.heap.size w8)).cell (p := ⟨g1, i, none⟩) (World.block_lt_of_cell? _ ⟨g1, i, none⟩ HC3.out)).trans HC3.out, ((below_drew1 (Below.refl w8.heap.size w8)).cell (p := ⟨g2, i, none⟩) (World.block_lt_of_cell? _ ⟨g2, i, none⟩ HC4.out)).trans HC4.out, below_drew1 (Below.refl w8.heap.size w8)⟩ (fun hHeld => ?_)
        refine pure_ (i := 0) (N := some 213) (v := ?_) (a' := ?_) #[true, false, false, false, false, false, false, false, false, false, false, false, false, false, false, false, false, false, false, false, false, false, false, false, false] rfl rfl (by kernel_rfl) (fun _ _ _ h => h) (Or.inl ⟨by rfl, ?_⟩) ?_ ?_
        rotate_left
        · intro w'
          go_simp
          with_reducible rfl
        rotate_left
        · simp only [Act.put, List.setIfInBounds_toArray, List.set_cons_zero, List.set_cons_succ, i64_w, i32_w]
          rfl
        refine pure_ (i := 1) (N := some 214) (v := ?_) (a' := ?_) #[true, true, false, false, false, false, false, false, false, false, false, false, false, false, false, false, false, false, false, false, false, false, false, false, false] rfl rfl (by kernel_rfl) (fun _ _ _ h => h) (Or.inl ⟨by rfl, ?_⟩) ?_ ?_
        rotate_left
        · intro w'
          go_simp
          with_reducible rfl
        rotate_left
        · simp only [Act.put, List.setIfInBounds_toArray, List.set_cons_zero, List.set_cons_succ, i64_w, i32_w]
          rfl
        refine pure_ (i := 2) (N := some 215) (v := ?_) (a' := ?_) #[true, true, true, false, false, false, false, false, false, false, false, false, false, false, false, false, false, false, false, false, false, false, false, false, false] rfl rfl (by kernel_rfl) (fun _ _ _ h => h) (Or.inl ⟨by rfl, ?_⟩) ?_ ?_
        rotate_left
        · intro w'
          go_simp
          with_reducible rfl
        rotate_left
        · simp only [Act.put, List.setIfInBounds_toArray, List.set_cons_zero, List.set_cons_succ, i64_w, i32_w]
          rfl
        refine pure_ (i := 3) (N := some 216) (v := ?_) (a' := ?_) #[true, true, true, true, false, false, false, false, false, false, false, false, false, false, false, false, false, false, false, false, false, false, false, false, false] rfl rfl (by kernel_rfl) (fun _ _ _ h => h) (Or.inl ⟨by rfl, ?_⟩) ?_ ?_
        rotate_left
        · intro w'
          go_simp
          with_reducible rfl
        rotate_left
        · simp only [Act.put, List.setIfInBounds_toArray, List.set_cons_zero, List.set_cons_succ, i64_w, i32_w]
          rfl
        refine pure_ (i := 5) (N := some 218) (v := ?_) (a' := ?_) #[true, true, true, true, false, true, false, false, false, false, false, false, false, false, false, false, false, false, false, false, false, false, false, false, false] rfl rfl (by kernel_rfl) (fun _ _ _ h => h) (Or.inl ⟨by rfl, ?_⟩) ?_ ?_
        rotate_left
        · intro w'
          go_simp
          with_reducible rfl
        rotate_left
        · simp only [Act.put, List.setIfInBounds_toArray, List.set_cons_zero, List.set_cons_succ, i64_w, i32_w]
          rfl
        refine pure_ (i := 6) (N := some 219) (v := ?_) (a' := ?_) #[true, true, true, true, false, true, true, false, false, false, false, false, false, false, false, false, false, false, false, false, false, false, false, false, false] rfl rfl (by kernel_rfl) (fun _ _ _ h => h) (Or.inl ⟨by rfl, ?_⟩) ?_ ?_
        rotate_left
        · intro w'
          go_simp
          with_reducible rfl
        rotate_left
        · simp only [Act.put, List.setIfInBounds_toArray, List.set_cons_zero, List.set_cons_succ, i64_w, i32_w]
          rfl
        refine pure_ (i := 7) (N := some 220) (v := ?_) (a' := ?_) #[true, true, true, true, false, true, true, true, false, false, false, false, false, false, false, false, false, false, false, false, false, false, false, false, false] rfl rfl (by kernel_rfl) (fun _ _ _ h => h) (Or.inl ⟨by rfl, ?_⟩) ?_ ?_
        rotate_left
        · intro w'
          go_simp
          with_reducible rfl
        rotate_left
        · simp only [Act.put, List.setIfInBounds_toArray, List.set_cons_zero, List.set_cons_succ, i64_w, i32_w]
          rfl
        refine take_ (i := 4) (N := some 217) (v := ?_) (a' := ?_) #[true, true, true, true, true, true, true, true, false, false, false, false, false, false, false, false, false, false, false, false, false, false, false, false, false] rfl rfl (by kernel_rfl) (fun _ _ _ h => h) (Or.inl ⟨by rfl, ?_⟩) hHeld ?_ ?_
        rotate_left
        · rintro w' ⟨s0, s1, s2, s3⟩
          have d2_ := (blk_cell s0 2).trans (show _ = some (Value.string b0) from rfl)
          go_simp
          with_reducible rfl
        rotate_left
        · simp only [Act.put, List.setIfInBounds_toArray, List.set_cons_zero, List.set_cons_succ, i64_w, i32_w]
          rfl
        refine take_ (i := 8) (N := some 221) (v := ?_) (a' := ?_) #[true, true, true, true, true, true, true, true, true, false, false, false, false, false, false, false, false, false, false, false, false, false, false, false, false] rfl rfl (by kernel_rfl) (fun _ _ _ h => h) (Or.inl ⟨by rfl, ?_⟩) hHeld ?_ ?_
        rotate_left
        · rintro w' ⟨s0, s1, s2, s3⟩
          go_simp
          with_reducible rfl
        rotate_left
        · simp only [Act.put, List.setIfInBounds_toArray, List.set_cons_zero, List.set_cons_succ, i64_w, i32_w]
          rfl
        refine pure_ (i := 9) (N := some 222) (v := ?_) (a' := ?_) #[true, true, true, true, true, true, true, true, true, true, false, false, false, false, false, false, false, false, false, false, false, false, false, false, false] rfl rfl (by kernel_rfl) (fun _ _ _ h => h) (Or.inl ⟨by rfl, ?_⟩) ?_ ?_
        rotate_left
        · intro w'
          go_simp
          with_reducible rfl
        rotate_left
        · simp only [Act.put, List.setIfInBounds_toArray, List.set_cons_zero, List.set_cons_succ, i64_w, i32_w]
          rfl
        refine pure_ (i := 10) (N := some 223) (v := ?_) (a' := ?_) #[true, true, true, true, true, true, true, true, true, true, true, false, false, false, false, false, false, false, false, false, false, false, false, false, false] rfl rfl (by kernel_rfl) (fun _ _ _ h => h) (Or.inl ⟨by rfl, ?_⟩) ?_ ?_
        rotate_left
        · intro w'
          go_simp
          with_reducible rfl
        rotate_left
        · simp only [Act.put, List.setIfInBounds_toArray, List.set_cons_zero, List.set_cons_succ, i64_w, i32_w]
          rfl
        refine pure_ (i := 11) (N := some 224) (v := ?_) (a' := ?_) #[true, true, true, true, true, true, true, true, true, true, true, true, false, false, false, false, false, false, false, false, false, false, false, false, false] rfl rfl (by kernel_rfl) (fun _ _ _ h => h) (Or.inl ⟨by rfl, ?_⟩) ?_ ?_
        rotate_left
        · intro w'
          go_simp
          with_reducible rfl
        rotate_left
        · simp only [Act.put, List.setIfInBounds_toArray, List.set_cons_zero, List.set_cons_succ, i64_w, i32_w]
          rfl
        refine pure_ (i := 12) (N := some 225) (v := ?_) (a' := ?_) #[true, true, true, true, true, true, true, true, true, true, true, true, true, false, false, false, false, false, false, false, false, false, false, false, false] rfl rfl (by kernel_rfl) (fun _ _ _ h => h) (Or.inl ⟨by rfl, ?_⟩) ?_ ?_
        rotate_left
        · intro w'
          go_simp
          with_reducible rfl
        rotate_left
        · simp only [Act.put, List.setIfInBounds_toArray, List.set_cons_zero, List.set_cons_succ, i64_w, i32_w]
          rfl
        refine pure_ (i := 14) (N := some 227) (v := ?_) (a' := ?_) #[true, true, true, true, true, true, true, true, true, true, true, true, true, false, true, false, false, false, false, false, false, false, false, false, false] rfl rfl (by kernel_rfl) (fun _ _ _ h => h) (Or.inl ⟨by rfl, ?_⟩) ?_ ?_
        rotate_left
        · intro w'
          go_simp
          with_reducible rfl
        rotate_left
        · simp only [Act.put, List.setIfInBounds_toArray, List.set_cons_zero, List.set_cons_succ, i64_w, i32_w]
          rfl
        refine pure_ (i := 15) (N := some 228) (v := ?_) (a' := ?_) #[true, true, true, true, true, true, true, true, true, true, true, true, true, false, true, true, false, false, false, false, false, false, false, false, false] rfl rfl (by kernel_rfl) (fun _ _ _ h => h) (Or.inl ⟨by rfl, ?_⟩) ?_ ?_
        rotate_left
        · intro w'
          go_simp
          with_reducible rfl
        rotate_left
        · simp only [Act.put, List.setIfInBounds_toArray, List.set_cons_zero, List.set_cons_succ, i64_w, i32_w]
          rfl
        refine pure_ (i := 16) (N := some 229) (v := ?_) (a' := ?_) #[true, true, true, true, true, true, true, true, true, true, true, true, true, false, true, true, true, false, false, false, false, false, false, false, false] rfl rfl (by kernel_rfl) (fun _ _ _ h => h) (Or.inl ⟨by rfl, ?_⟩) ?_ ?_
        rotate_left
        · intro w'
          go_simp
          with_reducible rfl
        rotate_left
        · simp only [Act.put, List.setIfInBounds_toArray, List.set_cons_zero, List.set_cons_succ, i64_w, i32_w]
          rfl
        refine pure_ (i := 18) (N := some 231) (v := ?_) (a' := ?_) #[true, true, true, true, true, true, true, true, true, true, true, true, true, false, true, true, true, false, true, false, false, false, false, false, false] rfl rfl (by kernel_rfl) (fun _ _ _ h => h) (Or.inl ⟨by rfl, ?_⟩) ?_ ?_
        rotate_left
        · intro w'
          go_simp
          with_reducible rfl
        rotate_left
        · simp only [Act.put, List.setIfInBounds_toArray, List.set_cons_zero, List.set_cons_succ, i64_w, i32_w]
          rfl
        refine take_ (i := 13) (N := some 226) (v := ?_) (a' := ?_) #[true, true, true, true, true, true, true, true, true, true, true, true, true, true, true, true, true, false, true, false, false, false, false, false, false] rfl rfl (by kernel_rfl) (fun _ _ _ h => h) (Or.inl ⟨by rfl, ?_⟩) hHeld ?_ ?_
        rotate_left
        · rintro w' ⟨s0, s1, s2, s3⟩
          have d2_ := (blk_cell s0 3).trans (show _ = some (Value.slice Q nx q) from rfl)
          go_simp
          with_reducible rfl
        rotate_left
        · simp only [Act.put, List.setIfInBounds_toArray, List.set_cons_zero, List.set_cons_succ, i64_w, i32_w]
          rfl
        refine take_ (i := 17) (N := some 230) (v := ?_) (a' := ?_) #[true, true, true, true, true, true, true, true, true, true, true, true, true, true, true, true, true, true, true, false, false, false, false, false, false] rfl rfl (by kernel_rfl) (fun _ _ _ h => h) (Or.inl ⟨by rfl, ?_⟩) hHeld ?_ ?_
        rotate_left
        · rintro w' ⟨s0, s1, s2, s3⟩
          go_simp
          with_reducible rfl
        rotate_left
        · simp only [Act.put, List.setIfInBounds_toArray, List.set_cons_zero, List.set_cons_succ, i64_w, i32_w]
          rfl
        refine one_ (i := 19) (N := some 232) #[true, true, true, true, true, true, true, true, true, true, true, true, true, true, true, true, true, true, true, true, false, false, false, false, false] rfl rfl (by kernel_rfl) (by decide) (fun K hK => ?_)
        refine goes_ Try.func46 (by kernel_rfl) rfl #[.slice Q nx q, .slice A5 R0.length c5, .int .i64 (kept : Int)] (by rfl) rfl rfl (by first | rfl | (simp; done) | (simp only [List.map_toArray, List.map_cons, List.map_nil]; rfl)) ?_
        with_reducible refine (between_calls Q q A5 c5 nx R0.length X R0 kept jj HXN.out rfl HXT.out HJT.out.2 HJT.out.1 _ (Kd.C_below HQX.out.2 hHeld.2.2.2) (HXN.out ▸ HQX.out.1) (Kd.C_below HR0.out.2 hHeld.2.2.2) HR0.out.1).mono ?_
        rintro e w9 ⟨rfl, hb⟩
        refine ⟨_, rfl, ?_⟩
        refine hK.out _ _ ⟨blk_below hHeld.1 (hb), ((hb).cell (p := ⟨g1, i, none⟩) (World.block_lt_of_cell? _ ⟨g1, i, none⟩ hHeld.2.1)).trans hHeld.2.1, ((hb).cell (p := ⟨g2, i, none⟩) (World.block_lt_of_cell? _ ⟨g2, i, none⟩ hHeld.2.2.1)).trans hHeld.2.2.1, below_step hHeld.2.2.2 (hb)⟩ (fun hHeld => ?_)
        clear hK K
        refine norm_ (a' := ?_) ?_ ?_
        rotate_left
        · show Act.put _ (some 232) _ = _
          simp only [Act.put, List.setIfInBounds_toArray, List.set_cons_zero, List.set_cons_succ, i64_w, i32_w]
          rfl
        refine pure_ (i := 20) (N := some 233) (v := ?_) (a' := ?_) #[true, true, true, true, true, true, true, true, true, true, true, true, true, true, true, true, true, true, true, true, true, false, false, false, false] rfl rfl (by kernel_rfl) (fun _ _ _ h => h) (Or.inl ⟨by rfl, ?_⟩) ?_ ?_
        rotate_left
        · intro w'
          go_simp
          with_reducible rfl
        rotate_left
        · simp only [Act.put, List.setIfInBounds_toArray, List.set_cons_zero, List.set_cons_succ, i64_w, i32_w]
          rfl
        refine pure_ (i := 21) (N := some 234) (v := ?_) (a' := ?_) #[true, true, true, true, true, true, true, true, true, true, true, true, true, true, true, true, true, true, true, true, true, true, false, false, false] rfl rfl (by kernel_rfl) (fun _ _ _ h => h) (Or.inl ⟨by rfl, ?_⟩) ?_ ?_
        rotate_left
        · intro w'
          go_simp
          with_reducible rfl
        rotate_left
        · simp only [Act.put, List.setIfInBounds_toArray, List.set_cons_zero, List.set_cons_succ, i64_w, i32_w]
          rfl
        refine one_ (i := 22) (N := some 235) #[true, true, true, true, true, true, true, true, true, true, true, true, true, true, true, true, true, true, true, true, true, true, true, false, false] rfl rfl (by kernel_rfl) (by decide) (fun K hK => ?_)
        refine goes_ Try.func31 (by kernel_rfl) rfl #[] (by rfl) rfl rfl (by first | rfl | (simp; done) | (simp only [List.map_toArray, List.map_cons, List.map_nil]; rfl)) ?_
        with_reducible refine (Tp.awake_calls _).mono ?_
        rintro e w10 ⟨rfl, hb⟩
        refine ⟨_, rfl, ?_⟩
        refine hK.out _ _ ⟨blk_below hHeld.1 (hb), ((hb).cell (p := ⟨g1, i, none⟩) (World.block_lt_of_cell? _ ⟨g1, i, none⟩ hHeld.2.1)).trans hHeld.2.1, ((hb).cell (p := ⟨g2, i, none⟩) (World.block_lt_of_cell? _ ⟨g2, i, none⟩ hHeld.2.2.1)).trans hHeld.2.2.1, below_step hHeld.2.2.2 (hb)⟩ (fun hHeld => ?_)
        clear hK K
        refine norm_ (a' := ?_) ?_ ?_
        rotate_left
        · show Act.put _ (some 235) _ = _
          simp only [Act.put, List.setIfInBounds_toArray, List.set_cons_zero, List.set_cons_succ, i64_w, i32_w]
          rfl
        refine pure_ (i := 23) (N := some 236) (v := ?_) (a' := ?_) #[true, true, true, true, true, true, true, true, true, true, true, true, true, true, true, true, true, true, true, true, true, true, true, true, false] rfl rfl (by kernel_rfl) (fun _ _ _ h => h) (Or.inl ⟨by rfl, ?_⟩) ?_ ?_
        rotate_left
        · intro w'
          go_simp
          with_reducible rfl
        rotate_left
        · simp only [Act.put, List.setIfInBounds_toArray, List.set_cons_zero, List.set_cons_succ, i64_w, i32_w]
          rfl
        refine pure_ (i := 24) (N := some 6) (v := ?_) (a' := ?_) #[true, true, true, true, true, true, true, true, true, true, true, true, true, true, true, true, true, true, true, true, true, true, true, true, true] rfl rfl (by kernel_rfl) (fun _ _ _ h => h) (Or.inl ⟨by rfl, ?_⟩) ?_ ?_
        rotate_left
        · intro w'
          go_simp
          with_reducible rfl
        rotate_left
        · simp only [Act.put, List.setIfInBounds_toArray, List.set_cons_zero, List.set_cons_succ, i64_w, i32_w]
          rfl
        refine done_ (by kernel_rfl) ?_
        go_wp2_with (fail)
        go_ret
        exact ⟨rfl, below_step HW7.out hHeld.2.2.2⟩
end Go.Proofs.Ytehjbhnlbjbhfaa.Wk
