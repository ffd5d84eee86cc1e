/- The statement TapeOpens is proved, for every input, without a condition; ahead of it the last contracts and plain laws that it rests on. -/
import Derived.Test.YtehjbhnlbjbhfaaBnTapeOpens12
import Derived.SizedLaws
import Derived.ChangeSlices
import Derived.Test.YtehjbhnlbjbhfaaRows
import Derived.WalkKit
import Derived.ProofKit
import Derived.OpenShut
import Derived.ShutString
import Derived.ChangeOld
import Derived.Below
-- WkTapeOpens
namespace Go.Proofs.Ytehjbhnlbjbhfaa.Wk
open Go Go.RowKit Go.Proofs.YtehjbhnlbjbhfaaW.PrintWords Go.Proofs.YtehjbhnlbjbhfaaW.PrintLast Go.Proofs.YtehjbhnlbjbhfaaW.PrintMore Go.Proofs.Ytehjbhnlbjbhfaa.Wire Go.Proofs.Ytehjbhnlbjbhfaa.Dk Go.Proofs.Ytehjbhnlbjbhfaa.Tp Go.Proofs.Ytehjbhnlbjbhfaa.Rd Go.Proofs.Ytehjbhnlbjbhfaa.Rt
set_option linter.unusedVariables false
set_option linter.unusedSimpArgs false
set_option maxHeartbeats 16000000 in
set_option maxRecDepth 100000 in
theorem TapeOpens {W : World} (A0 : Option Addr) (cap0 : Nat) (l0 : List Int) (hl0 : l0.length ≤ cap0) (hC0 : (Kd.int .u8).C W A0 l0.length l0) (hG0 : ∀ y ∈ l0, (Lit.int .u8 y).wf = true)
    (A1 : Option Addr) (cap1 : Nat) (l1 : List Int) (hl1 : l1.length ≤ cap1) (hC1 : (Kd.int .u8).C W A1 l1.length l1) (hG1 : ∀ y ∈ l1, (Lit.int .u8 y).wf = true) :
    Calls Try.prog 5 #[.slice A0 l0.length cap0, .slice A1 l1.length cap1] W fun e w' => e = .returned (.bool true) ∧ Below W.heap.size W w' := by
  have HC0 := Aside0.mk (And.intro hl0 hC0)
  have HC1 := Aside0.mk (And.intro hl1 hC1)
  have HS0 := Aside0.mk (bs_wf hG0)
  have HS1 := Aside0.mk (bs_wf hG1)
  clear hl0 hC0 hG0 hl1 hC1 hG1
  by_cases c0 : (l0.length : Int) > 16384
  · have d0 : decide ((l0.length : Int) > 16384) = true := decide_eq_true c0
    have d1 : decide ((16384 : Int) < (l0.length : Int)) = true := decide_eq_true c0
    clear c0
    go_enter Try.func5, Try.ntmps5
    go_wp2_with (fail)
    refine (Tp.awake_calls _).mono ?_
    rintro e w1 ⟨rfl, hB⟩
    have HB := Aside0.mk hB
    clear hB
    go_wp2_with (fail)
    go_ret
    exact ⟨rfl, HB.out⟩
  by_cases c1 : (l1.length : Int) > 16384
  · have d0 : decide ((l0.length : Int) > 16384) = false := decide_eq_false c0
    have d1 : decide ((16384 : Int) < (l0.length : Int)) = false := decide_eq_false c0
    have d2 : decide ((l1.length : Int) > 16384) = true := decide_eq_true c1
    have d3 : decide ((16384 : Int) < (l1.length : Int)) = true := decide_eq_true c1
    clear c0 c1
    go_enter Try.func5, Try.ntmps5
    go_wp2_with (fail)
    refine (Tp.awake_calls _).mono ?_
    rintro e w1 ⟨rfl, hB⟩
    have HB := Aside0.mk hB
    clear hB
    go_wp2_with (fail)
    go_ret
    exact ⟨rfl, HB.out⟩
  have d0 : decide ((l0.length : Int) > 16384) = false := decide_eq_false c0
  have d1 : decide ((16384 : Int) < (l0.length : Int)) = false := decide_eq_false c0
  have d2 : decide ((l1.length : Int) > 16384) = false := decide_eq_false c1
  have d3 : decide ((16384 : Int) < (l1.length : Int)) = false := decide_eq_false c1
  have HLN := Aside0.mk (show l0.length ≤ 16384 ∧ l1.length ≤ 16384 by omega)
  clear c0 c1
  go_enter Try.func5, Try.ntmps5
  go_wp2_with (fail)
  refine (New_calls 2097152 _ (by decide) (by decide)).mono ?_
  rintro e w1 ⟨b, rfl, hb1, hb2, hB1, hI⟩
  have HI1 := Aside0.mk hI
  have HB1 := Aside0.mk hB1
  have HL1 := Aside0.mk (And.intro hb1 hb2)
  clear hb1 hb2 hB1 hI
  go_wp2_with (fail)
  refine (RNew_calls 2097152 _ (by decide) (by decide)).mono ?_
  rintro e w2 ⟨x, rfl, hx1, hx2, hB2, hI2⟩
  have HB2 := Aside0.mk (below_step HB1.out hB2)
  have HNE := Aside0.mk (show W.heap.size ≤ b ∧ b < x from ⟨HL1.out.1, Nat.lt_of_lt_of_le HL1.out.2 hx1⟩)
  obtain ⟨G, hG⟩ : ∃ G : Nat → Prop, (fun k => k = b ∨ k = x) = G := ⟨_, rfl⟩
  have HD2 := Aside0.mk (show IsD G w2 b (newP 2097152) by
    rw [← hG]
    exact IsD.more (HI1.out (fun k => k = b) (fun k e => e ▸ HL1.out.2) rfl) hx1 hx2 hB2)
  have HX2 := Aside0.mk (show IsX G w2 x (newP 2097152) from hI2 G (by rw [← hG]; rintro k (rfl | rfl); exact Nat.lt_of_lt_of_le HL1.out.2 hB2.size; exact hx2) (by rw [← hG]; exact .inr rfl))
  have HUW := Aside0.mk (show ∀ k, G k → W.heap.size ≤ k by rw [← hG]; have := HNE.out; intro k hk; omega)
  have HGB := Aside0.mk (show G b ∧ G x by rw [← hG]; exact ⟨.inl rfl, .inr rfl⟩)
  clear hx1 hx2 hB2 hI2 HI1 HB1 HL1 hG
  obtain ⟨g, hg⟩ : ∃ g, w2.heap.size = g := ⟨_, rfl⟩
  have hrow := blk_new w2 (.cells #[.slice A0 l0.length cap0, .slice A1 l1.length cap1] 32)
  rw [hg] at hrow
  have hbl := below_alloc (Below.refl w2.heap.size w2) (.cells #[.slice A0 l0.length cap0, .slice A1 l1.length cap1] 32)
  have HROW := Aside0.mk hrow
  have HD3 := Aside0.mk (HD2.out.below hbl)
  have HX3 := Aside0.mk (HX2.out.below hbl)
  have HB3 := Aside0.mk (below_step HB2.out hbl)
  have HGN := Aside0.mk (show b ≠ g ∧ x ≠ g by have h1 := HD2.out.lt b HD2.out.gg; have h2 := HX2.out.ltg; omega)
  clear hrow hbl HD2 HX2 HB2
  go_wp2_with (fail)
  go_loopg [36] 2 (fun fu v36 wr => ∃ j : Nat, j + fu = 2 ∧ v36 = .int .i64 (j : Int) ∧ Aside0 (IsD G wr b (twoS l0 l1 j)) ∧ Aside0 (IsX G wr x (twoS l0 l1 j)) ∧ Aside0 (Below W.heap.size W wr) ∧ Aside0 (wr.heap[g]? = some (.cells #[.slice A0 l0.length cap0, .slice A1 l1.length cap1] 32 (0, 0))))
  case atStart => exact ⟨0, rfl, rfl, HD3, HX3, HB3, HROW⟩
  case round =>
    clear HD3 HX3 HB3 HROW hg
    obtain ⟨j, hjf, rfl, HD, HX, HB, HROW⟩ := hrel
    have HJ := Aside0.mk hjf
    have : j = 0 ∨ j = 1 ∨ j = 2 := by omega
    rcases this with rfl | rfl | rfl
    · have hc := (blk_cell HROW.out 0).trans (show _ = some (Value.slice A0 l0.length cap0) from rfl)
      have HR := Aside0.mk ((Rw.came (G := G) HC0.out.2 HC0.out.1 HUW.out).below HB.out)
      clear hjf
      go_wp2_with (fail)
      refine (Append_calls G b _ ((0 : Nat) : Int) _ l0 _ HD.out (twoS_okk _ _ 0) (Rw.alone HR.out HGB.out.1) (by have := HLN.out; omega)).mono ?_
      rintro e w3 ⟨rfl, hI, hW⟩
      have HD4 := Aside0.mk (show IsD G w3 b (twoS l0 l1 1) from hI)
      have HX4 := Aside0.mk (HX.out.other hW HGB.out.1 (by have := HNE.out; omega))
      have HB4 := Aside0.mk (hW.below HB.out HNE.out.1)
      have HR4 := Aside0.mk (Rw.wr HR.out hW HGB.out.1)
      have HROW4 := Aside0.mk ((hW.block g (blk_lt HROW.out) (fun e => HGN.out.1 e.symm)).trans HROW.out)
      clear hI hW HD HX HB HR HROW
      go_wp2_with (fail)
      refine (RAppend_calls G x _ ((0 : Nat) : Int) _ l0 _ HX4.out (twoS_okk _ _ 0) (twoS_room _ _ _) (Rw.alone HR4.out HGB.out.2) (by have := HLN.out; omega)).mono ?_
      rintro e w4 ⟨rfl, hI, hW⟩
      have HX5 := Aside0.mk (show IsX G w4 x (twoS l0 l1 1) from hI)
      have HD5 := Aside0.mk (HD4.out.other hW HGB.out.2 (by have := HNE.out; omega))
      have HB5 := Aside0.mk (hW.below HB4.out (by have := HNE.out; omega))
      have HROW5 := Aside0.mk ((hW.block g (blk_lt HROW4.out) (fun e => HGN.out.2 e.symm)).trans HROW4.out)
      clear hI hW HD4 HX4 HB4 HR4 HROW4
      go_wp2_with (fail)
      go_roundg (gk - 1)
      case rel => exact ⟨1, by have := HJ.out; omega, rfl, HD5, HX5, HB5, HROW5⟩
      case measure => have := HJ.out; omega
    · have hc := (blk_cell HROW.out 1).trans (show _ = some (Value.slice A1 l1.length cap1) from rfl)
      have HR := Aside0.mk ((Rw.came (G := G) HC1.out.2 HC1.out.1 HUW.out).below HB.out)
      clear hjf
      go_wp2_with (fail)
      refine (Append_calls G b _ ((1 : Nat) : Int) _ l1 _ HD.out (twoS_okk _ _ 1) (Rw.alone HR.out HGB.out.1) (by have := HLN.out; omega)).mono ?_
      rintro e w3 ⟨rfl, hI, hW⟩
      have HD4 := Aside0.mk (show IsD G w3 b (twoS l0 l1 2) from hI)
      have HX4 := Aside0.mk (HX.out.other hW HGB.out.1 (by have := HNE.out; omega))
      have HB4 := Aside0.mk (hW.below HB.out HNE.out.1)
      have HR4 := Aside0.mk (Rw.wr HR.out hW HGB.out.1)
      have HROW4 := Aside0.mk ((hW.block g (blk_lt HROW.out) (fun e => HGN.out.1 e.symm)).trans HROW.out)
      clear hI hW HD HX HB HR HROW
      go_wp2_with (fail)
      refine (RAppend_calls G x _ ((1 : Nat) : Int) _ l1 _ HX4.out (twoS_okk _ _ 1) (twoS_room _ _ _) (Rw.alone HR4.out HGB.out.2) (by have := HLN.out; omega)).mono ?_
      rintro e w4 ⟨rfl, hI, hW⟩
      have HX5 := Aside0.mk (show IsX G w4 x (twoS l0 l1 2) from hI)
      have HD5 := Aside0.mk (HD4.out.other hW HGB.out.2 (by have := HNE.out; omega))
      have HB5 := Aside0.mk (hW.below HB4.out (by have := HNE.out; omega))
      have HROW5 := Aside0.mk ((hW.block g (blk_lt HROW4.out) (fun e => HGN.out.2 e.symm)).trans HROW4.out)
      clear hI hW HD4 HX4 HB4 HR4 HROW4
      go_wp2_with (fail)
      go_roundg (gk - 1)
      case rel => exact ⟨2, by have := HJ.out; omega, rfl, HD5, HX5, HB5, HROW5⟩
      case measure => have := HJ.out; omega
    · have e2 : decide (((2 : Nat) : Int) < 2) = false := by decide
      have HOK := Aside0.mk (twoS_okk l0 l1 2)
      have HBS := Aside0.mk (twoS_bsd HS0.out HS1.out 2)
      have HRM := Aside0.mk (twoS_room l0 l1 2)
      generalize twoS l0 l1 2 = s0 at *
      generalize wr = wo at *
      clear hjf HJ HROW
      obtain ⟨⟨o, s, e0⟩, ho⟩ : ∃ q, openT s0 = q := ⟨_, rfl⟩
      have HO := Aside0.mk ho
      have HOS := Aside0.mk (show Okk s by have := openT_okk HOK.out; rw [ho] at this; exact this)
      have HBD := Aside0.mk (show BsD s by have := openT_bsd HOK.out HBS.out; rw [ho] at this; exact this)
      have HRS := Aside0.mk (show s.room ≠ 0 by have := openT_room s0; rw [ho] at this; rw [this]; exact HRM.out)
      clear ho
      go_wp2_with (fail)
      refine (Open_calls G b s0 _ HD.out HOK.out HBS.out).mono ?_
      rw [HO.out]
      rintro e w5 ⟨p, rfl, hD5, hW5, hp⟩
      obtain ⟨t, ht⟩ : ∃ t, wo.heap.size = t := ⟨_, rfl⟩
      have HBT := Aside0.mk (show b < t ∧ x < t by have h1 := HD.out.lt b HD.out.gg; have h2 := HX.out.ltg; omega)
      rw [ht] at hD5 hp
      have htl : o ≠ none → t < w5.heap.size := by
        intro h
        cases o with
        | none => exact absurd rfl h
        | some z => exact hp.2.lt
      have HX5 := Aside0.mk (IsX.ws HX.out hW5 (fun k e => e ▸ HGB.out.1) (by have := HNE.out; omega))
      have HB5 := Aside0.mk (hW5.below HB.out (fun k e => e ▸ HNE.out.1))
      have HDD := Aside0.mk hD5
      clear HD HX HB ht
      go_wp2_with (fail)
      refine (rOpen_calls G x s0 _ HX5.out HOK.out HBS.out HRM.out).mono ?_
      rw [HO.out]
      rintro e w6 ⟨q, rfl, hX6, hW6, hq⟩
      obtain ⟨y, hy⟩ : ∃ y, w5.heap.size = y := ⟨_, rfl⟩
      rw [hy] at hX6 hq
      have HX6 := Aside0.mk hX6
      have HD6 := Aside0.mk (IsD.ws HDD.out hW6 (fun k e => .inl (e ▸ HGB.out.2)) (by have := HNE.out; omega))
      have HB6 := Aside0.mk (hW6.below HB5.out (fun k e => by have := HNE.out; omega))
      have de : (e0 == e0) = true := by simp
      cases o with
      | none =>
        simp only at hp hq
        subst hp hq
        clear hD5 hW5 hX6 hW6 htl HX5 HB5 HDD
        go_wp2_with (fail)
        refine (tells_nil _).mono ?_
        rintro e w7 ⟨rfl, ⟨n7, rfl⟩⟩
        go_wp2_with (fail)
        refine (face_calls _ _ b x s _ (HD6.out.drN n7) (HX6.out.drN n7) HOS.out HBD.out HRS.out).mono ?_
        rintro e w8 ⟨rfl, hb⟩
        have HBF := Aside0.mk (below_step (pw_below_drewN HB6.out n7) hb)
        clear hb
        go_wp2_with (fail)
        refine (Tp.awake_calls _).mono ?_
        rintro e w9 ⟨rfl, hb⟩
        have HB9 := Aside0.mk (below_step HBF.out hb)
        clear hb
        go_wp2_with (fail)
        go_ret
        exact ⟨rfl, HB9.out⟩
      | some z =>
        obtain ⟨rfl, hT5⟩ := hp
        obtain ⟨rfl, hY6⟩ := hq
        obtain ⟨rfl, hbnd, _⟩ := openT_some HBS.out HOK.out.1 HO.out
        have HBN := Aside0.mk (show Bnd z 100000000 from ⟨hbnd.base, by have := hbnd.many; omega, hbnd.l⟩)
        have HT6 := Aside0.mk (hT5.ws hW6 (fun k e => .inl (e ▸ HGB.out.2)) (by have := HBT.out; omega))
        have HY6 := Aside0.mk hY6
        clear hD5 hW5 hX6 hW6 htl HX5 HB5 HDD hT5 hY6 hbnd
        go_wp2_with (fail)
        refine (tells_calls _ _ t b y x z _ HT6.out HY6.out HBN.out).mono ?_
        rintro e w7 ⟨rfl, hb⟩
        have HD7 := Aside0.mk (HD6.out.below hb)
        have HX7 := Aside0.mk (HX6.out.below hb)
        have HB7 := Aside0.mk (below_step HB6.out hb)
        clear hb
        go_wp2_with (fail)
        refine (face_calls _ _ b x s _ HD7.out HX7.out HOS.out HBD.out HRS.out).mono ?_
        rintro e w8 ⟨rfl, hb⟩
        have HBF := Aside0.mk (below_step HB7.out hb)
        clear hb
        go_wp2_with (fail)
        refine (Tp.awake_calls _).mono ?_
        rintro e w9 ⟨rfl, hb⟩
        have HB9 := Aside0.mk (below_step HBF.out hb)
        clear hb
        go_wp2_with (fail)
        go_ret
        exact ⟨rfl, HB9.out⟩
end Go.Proofs.Ytehjbhnlbjbhfaa.Wk
-- WSized
namespace Go.Proofs.YtehjbhnlbjbhfaaW.PrintWords
open Go.ChangeShapes Go.WideShapes
end Go.Proofs.YtehjbhnlbjbhfaaW.PrintWords
-- LawTapeOpens
namespace Go.Proofs.Ytehjbhnlbjbhfaa.tapeOpens
open Go.ChangeShapes Go.WideShapes Go.ChangeAt Go.RowKit
open Go.ChangeMaps (open_string shut_string)
set_option linter.unusedVariables false
theorem own : ownKnob Try.prog.godebug = none := by kernel_rfl
theorem laidOut : laidOutB Try.prog = true := by kernel_rfl
set_option maxRecDepth 100000 in
theorem lifted (os : Os) (started : os.Started) (H : Type) (enc : TypeId × Value → H) :
    ReturnsInHanded {} Try.checked os 5 .any (Rows.tapeOpensSpec.pre6 enc Try.prog Try.f5 Rows.tapeOpensRow.domain false) (Rows.tapeOpensSpec.post enc Try.prog Try.f5 false true false false) := by
  refine returnsInHanded_of_change_sized (C := Try.checked) own started (by kernel_rfl) Try.func5
    (ChangeSpec.witness6 (enc := enc) (C := Try.checked) false ⟨#[], #[.slice none 0 0, .slice none 0 0], []⟩ 8 (by kernel_rfl) (by kernel_rfl) (by kernel_rfl) (by kernel_rfl)) ?_
  intro W base args ds gs before hval0 hW hcnd hsz0 _
  have hval : ∀ (j : Nat) t v, Try.f5.params[j]? = some t → args[j]? = some v → Value.okWide Try.prog W .any base t v := hval0
  have hW' := hW
  obtain ⟨p, q, hA0, hV, rfl, hfz, hnd⟩ := hW
  have hA : DataW.TrodAll enc Try.prog W 0 (fun _ => true) true Try.f5.params.toList args.toList ds p := hA0
  rw [Try.params5] at hA hval
  obtain ⟨v0, vs0, d0, ds0, p0, q0, hargs, rfl, rfl, h0, r0⟩ := trodAll_cons hA
  obtain ⟨v1, vs1, d1, ds1, p1, q1, rfl, rfl, rfl, h1, r1⟩ := trodAll_cons r0
  obtain ⟨rfl, rfl, rfl⟩ := trodAll_nil r1
  obtain rfl : args = #[v0, v1] := by cases args; simp_all
  obtain ⟨rfl, rfl⟩ := trodVars_none hV
  have k0 := h0
  have lt0 : ∀ x ∈ p0, x.block < W.heap.size := by obtain ⟨m, hm⟩ := k0; exact DataW.trod_lt m _ _ _ hm
  obtain ⟨a0, cap0, l0, rfl, hl0, hC0, hG0, _⟩ := Op.open_param Try.underlying32 (Op.opens_int Try.underlying5 (by kernel_rfl)) h0 (okWide_slice Try.underlying32 (hval 0 32 v0 rfl rfl))
  have k1 := h1
  have lt1 : ∀ x ∈ p1, x.block < W.heap.size := by obtain ⟨m, hm⟩ := k1; exact DataW.trod_lt m _ _ _ hm
  obtain ⟨a1, cap1, l1, rfl, hl1, hC1, hG1, _⟩ := Op.open_param Try.underlying32 (Op.opens_int Try.underlying5 (by kernel_rfl)) h1 (okWide_slice Try.underlying32 (hval 1 32 v1 rfl rfl))
  clear hA0 hval0 hsz0
  refine (Wk.TapeOpens a0 cap0 l0 hl0 hC0 hG0 a1 cap1 l1 hl1 hC1 hG1).mono fun e W' ⟨he, bel⟩ => ?_
  subst he
  exact ⟨_, rfl, _, _, _, [], _, [], hW', trodAll_mk1 (shut_bool Try.underlying4 _), (trodAll_cons_mk (Below.trod laidOut (by kernel_rfl) (of_decide_eq_true (by kernel_rfl)) k0 bel lt0) (trodAll_cons_mk (Below.trod laidOut (by kernel_rfl) (of_decide_eq_true (by kernel_rfl)) k1 bel lt1) trodAll_mk0)), rfl, bel.frame _, fun h => by cases h⟩
theorem over : Rows.tapeOpensRow.holds Try.pinned (OpenSpec.ofChange Rows.tapeOpensSpec) :=
  OpenClaim.holds_of_wide 5 Try.f5 rfl rfl rfl rfl rfl rfl rfl ⟨rfl, rfl, rfl, rfl, rfl⟩ rfl rfl rfl rfl rfl (by kernel_rfl) Try.func5 (by kernel_rfl)
    (of_decide_eq_true (by kernel_rfl)) (by unfold Func.isWrapper; first | (rw [if_pos (by decide +kernel)]; kernel_rfl) | (rw [if_neg (by decide +kernel)]; exact ⟨rfl, rfl⟩))
    (fun os started H enc _ => lifted os started H enc)
theorem proved : Rows.TapeOpensSaid := over
#print axioms proved
end Go.Proofs.Ytehjbhnlbjbhfaa.tapeOpens
namespace Go.Proofs.Ytehjbhnlbjbhfaa
theorem tapeOpens_holds : Rows.TapeOpensSaid := tapeOpens.proved
end Go.Proofs.Ytehjbhnlbjbhfaa
