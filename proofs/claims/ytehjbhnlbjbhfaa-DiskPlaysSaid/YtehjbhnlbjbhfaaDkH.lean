/- Contract of what the disk's Append does. -/
import Derived.Test.YtehjbhnlbjbhfaaDkF
import Derived.Test.YtehjbhnlbjbhfaaDkG
namespace Go.Proofs.Ytehjbhnlbjbhfaa.Dk
open Go Go.RowKit Go.Proofs.YtehjbhnlbjbhfaaW.PrintWords Go.Proofs.YtehjbhnlbjbhfaaW.PrintLast Go.Proofs.YtehjbhnlbjbhfaaW.PrintMore
open Go.Proofs.Ytehjbhnlbjbhfaa.PDiskBegins
attribute [local go_sem] max2_int min2_int max_two min_two
set_option linter.unusedVariables false
set_option linter.unusedSimpArgs false
theorem with_w {P : World → Prop} (S : World → Prop) {W : World} (h : S W) (k : ∀ w', S w' → P w') : P W := k W h
set_option maxHeartbeats 8000000 in
set_option maxRecDepth 100000 in
theorem c46_calls (G : Nat → Prop) (g : Nat) (s : DS) (i n : Nat) (bs : List Int) (B : Option Addr) (cb : Nat) (b1 b2 b3 : Nat) (w : World) (h : IsD G w g s) (hi : i < 8) (hsl : (fl s i).seen.length ≤ 4194304) (h1 : w.cell? ⟨b1, 0, none⟩ = some (.pointer (some ⟨g, 0, none⟩))) (h2 : w.cell? ⟨b2, 0, none⟩ = some (.int .i64 (i : Int))) (h3 : w.cell? ⟨b3, 0, none⟩ = some (.slice B bs.length cb))
    (hB : (Kd.int .u8).C w B bs.length bs) (hcb : bs.length ≤ cb) (hn : n ≤ bs.length) (hbl : bs.length < 1000000000) :
    Calls Try.prog 65 #[.int .i64 (n : Int), .pointer (some ⟨b1, 0, none⟩), .pointer (some ⟨b2, 0, none⟩), .pointer (some ⟨b3, 0, none⟩)] w fun e w' => e = .returned (.tuple #[]) ∧ IsD G w' g (doneA i bs s n) ∧ Wr g w w' := by
  have H := Aside0.mk h
  obtain ⟨_, _, d, hA, hR⟩ := h
  have HA := Aside0.mk hA
  have HR := Aside0.mk hR
  obtain ⟨A, cc, hv, hvc, hC0⟩ := (hR.2.2.2.2.2.2 i hi).1.slice
  have HV := Aside0.mk hv
  have hs := hA.sv hi
  rw [hv] at hs
  have hfs := hA.frozen (3 + i * 3)
  have HGL := Aside0.mk hA.lt
  have HG3 := Aside0.mk (World.block_lt_of_cell? w _ h3)
  have HC0 := Aside0.mk hC0
  have HCC := Aside0.mk hvc
  have HSL := Aside0.mk (show (fl s i).seen.length < 140737488355328 by omega)
  obtain ⟨i0, hi0, _, hz1, _⟩ := info_parts info5
  have HCUT := cut_to (P := Try.prog) 32 5 .i64 Try.underlying32 hi0 B bs.length cb (n : Int) (by omega) (by omega) hcb
  rw [Int.toNat_natCast] at HCUT
  have hyl : (bs.take n).length = n := by rw [List.length_take]; exact Nat.min_eq_left hn
  have HCY := Aside0.mk (Kd.C_take (m := n) hB hn)
  have HY := Aside0.mk (show doneA i bs s n = setF s i ⟨(fl s i).seen ++ bs.take n, (fl s i).lasts, (fl s i).cl⟩ from rfl)
  rw [HY.out]
  have HLY := Aside0.mk (show ((fl s i).seen.length + (bs.take n).length) * 1 ≤ 140737488355328 by omega)
  generalize hy : bs.take n = y at HCY HY HLY hyl
  rw [← hyl] at HCUT
  subst hyl
  clear hA hR hv hvc hC0 hB hcb hn hbl hi0 hz1 hsl
  go_enter Try.func65, Try.ntmps65
  go_wp2
  go_quiet (fail)
  go_wp2
  refine with_w (fun w' => At w' g d ∧ Rows G w' d s ∧ Wr g w w' ∧ w'.cell? ⟨b3, 0, none⟩ = some (.slice B bs.length cb) ∧ (Kd.int .u8).C w' A (fl s i).seen.length (fl s i).seen ∧ (Kd.int .u8).C w' B y.length y) ⟨HA.out, HR.out.wr ((Wr.refl g w).drew1 nq) H.out.gg, (Wr.refl g w).drew1 nq, h3, Kd.C_drewN HC0.out nq, Kd.C_drewN HCY.out nq⟩ ?_
  clear hs hfs h1 h2 h3 HC0 HCY HA HR HGL HG3
  rintro wr ⟨hA, hR, hW, hbx, hC0, hCY⟩
  have HA := Aside0.mk hA
  have HR := Aside0.mk hR
  have HW := Aside0.mk hW
  have HC0 := Aside0.mk hC0
  have HCY := Aside0.mk hCY
  have hs := hA.sv hi
  obtain ⟨A', cc', hv, _, _⟩ := (hR.2.2.2.2.2.2 i hi).1.slice
  rw [HV.out] at hs
  have hfs := hA.frozen (3 + i * 3)
  have HGL := Aside0.mk hA.lt
  have HG3 := Aside0.mk (World.block_lt_of_cell? wr _ hbx)
  have HBB := Aside0.mk (Below.refl wr.drew.heap.size wr.drew)
  clear hA hR hW hC0 hCY hv
  refine start_ (n := 13) (S := fun w' => w'.cell? ⟨g, 3 + i * 3, none⟩ = some (.slice A (fl s i).seen.length cc) ∧ w'.frozen? ⟨g, 3 + i * 3, none⟩ = false ∧ w'.cell? ⟨b3, 0, none⟩ = some (.slice B bs.length cb)) (ds := [12]) #[false, false, false, false, false, false, false, false, false, false, false, false, false] (by kernel_rfl) rfl rfl ⟨hs, hfs, hbx⟩ (fun hHeld => ?_)
  refine pure_ (i := 0) (N := some 11) (v := ?_) (a' := ?_) #[true, false, false, false, false, false, false, false, false, false, false, false, false] rfl rfl (by kernel_rfl) (fun _ _ _ h => h) (Or.inl ⟨by rfl, ?_⟩) ?_ ?_
  rotate_left
  · intro w'
    go_simp
    with_reducible rfl
  rotate_left
  · simp only [Act.put, List.setIfInBounds_toArray, List.set_cons_zero, List.set_cons_succ, i64_w, i32_w]
    rfl
  refine pure_ (i := 1) (N := some 12) (v := ?_) (a' := ?_) #[true, true, false, false, false, false, false, false, false, false, false, false, false] rfl rfl (by kernel_rfl) (fun _ _ _ h => h) (Or.inl ⟨by rfl, ?_⟩) ?_ ?_
  rotate_left
  · intro w'
    go_simp
    with_reducible rfl
  rotate_left
  · simp only [Act.put, List.setIfInBounds_toArray, List.set_cons_zero, List.set_cons_succ, i64_w, i32_w]
    rfl
  refine pure_ (i := 2) (N := some 13) (v := ?_) (a' := ?_) #[true, true, true, false, false, false, false, false, false, false, false, false, false] rfl rfl (by kernel_rfl) (fun _ _ _ h => h) (Or.inl ⟨by rfl, ?_⟩) ?_ ?_
  rotate_left
  · intro w'
    go_simp
    with_reducible rfl
  rotate_left
  · simp only [Act.put, List.setIfInBounds_toArray, List.set_cons_zero, List.set_cons_succ, i64_w, i32_w]
    rfl
  refine pure_ (i := 3) (N := some 14) (v := ?_) (a' := ?_) #[true, true, true, true, false, false, false, false, false, false, false, false, false] rfl rfl (by kernel_rfl) (fun _ _ _ h => h) (Or.inl ⟨by rfl, ?_⟩) ?_ ?_
  rotate_left
  · intro w'
    go_simp
    with_reducible rfl
  rotate_left
  · simp only [Act.put, List.setIfInBounds_toArray, List.set_cons_zero, List.set_cons_succ, i64_w, i32_w]
    rfl
  refine pure_ (i := 7) (N := some 18) (v := ?_) (a' := ?_) #[true, true, true, true, false, false, false, true, false, false, false, false, false] rfl rfl (by kernel_rfl) (fun _ _ _ h => h) (Or.inl ⟨by rfl, ?_⟩) ?_ ?_
  rotate_left
  · intro w'
    go_simp
    with_reducible rfl
  rotate_left
  · simp only [Act.put, List.setIfInBounds_toArray, List.set_cons_zero, List.set_cons_succ, i64_w, i32_w]
    rfl
  refine take_ (i := 4) (N := some 15) (v := ?_) (a' := ?_) #[true, true, true, true, true, false, false, true, false, false, false, false, false] rfl rfl (by kernel_rfl) (fun _ _ _ h => h) (Or.inl ⟨by rfl, ?_⟩) hHeld ?_ ?_
  rotate_left
  · rintro w' ⟨s0, s1, s2⟩
    go_simp
    with_reducible rfl
  rotate_left
  · simp only [Act.put, List.setIfInBounds_toArray, List.set_cons_zero, List.set_cons_succ, i64_w, i32_w]
    rfl
  refine take_ (i := 6) (N := some 17) (v := ?_) (a' := ?_) #[true, true, true, true, true, false, true, true, false, false, false, false, false] rfl rfl (by kernel_rfl) (fun _ _ _ h => h) (Or.inl ⟨by rfl, ?_⟩) hHeld ?_ ?_
  rotate_left
  · rintro w' ⟨s0, s1, s2⟩
    go_simp
    with_reducible rfl
  rotate_left
  · simp only [Act.put, List.setIfInBounds_toArray, List.set_cons_zero, List.set_cons_succ, i64_w, i32_w]
    rfl
  refine pure_ (i := 8) (N := some 19) (v := ?_) (a' := ?_) #[true, true, true, true, true, false, true, true, true, false, false, false, false] rfl rfl (by kernel_rfl) (fun _ _ _ h => h) (Or.inl ⟨by rfl, ?_⟩) ?_ ?_
  rotate_left
  · intro w'
    go_simp
    with_reducible rfl
  rotate_left
  · simp only [Act.put, List.setIfInBounds_toArray, List.set_cons_zero, List.set_cons_succ, i64_w, i32_w]
    rfl
  refine one_ (i := 5) (N := some 16) #[true, true, true, true, true, true, true, true, true, false, false, false, false] rfl rfl (by kernel_rfl) (by decide) (fun K hK => ?_)
  refine goes_ Try.func14 (by kernel_rfl) rfl #[.slice A (fl s i).seen.length cc] (by rfl) rfl rfl (by first | rfl | (simp; done) | (simp only [List.map_toArray, List.map_cons, List.map_nil]; rfl)) ?_
  with_reducible refine (Clone_b A cc (fl s i).seen _ (by repeat (first | exact HC0.out | (with_reducible refine Kd.C_drew ?_) | (with_reducible refine Kd.C_drewN ?_ _))) HCC.out HSL.out).mono ?_
  rintro e w3 ⟨v, rfl, hR, hb⟩
  refine ⟨_, rfl, ?_⟩
  obtain ⟨A3, c3, e3⟩ := Kd.R_slice hR
  subst e3
  have n0_ := Aside0.mk (below_step (by repeat (first | (with_reducible first | exact HBB.out | apply below_alloc | apply pw_below_drewN | apply below_drew1) | exact HBB.out)) hb)
  have HOa := Aside0.mk hR
  clear HBB
  have HBB := n0_
  clear n0_
  clear hR
  refine hK.out _ _ ⟨(hb.cell (p := ⟨g, 3 + i * 3, none⟩) HGL.out).trans hHeld.1, (hb.frozen (p := ⟨g, 3 + i * 3, none⟩) HGL.out).trans hHeld.2.1, (hb.cell (p := ⟨b3, 0, none⟩) HG3.out).trans hHeld.2.2⟩ (fun hHeld => ?_)
  clear hK K
  refine norm_ (a' := ?_) ?_ ?_
  rotate_left
  · show Act.put _ (some 16) _ = _
    simp only [Act.put, List.setIfInBounds_toArray, List.set_cons_zero, List.set_cons_succ, i64_w, i32_w]
    rfl
  refine one_ (i := 9) (N := some 20) #[true, true, true, true, true, true, true, true, true, true, false, false, false] rfl rfl (by kernel_rfl) (by decide) (fun K hK => ?_)
  refine Kd.R_append_rows_step (Kd.int .u8) (w0 := wr.drew) wr.drew.heap.size (by rfl) (.tmp 16) (.tmp 19) 32 5 (.int .u8 0) 1 (by rfl) Try.underlying32 info5 rfl (by decide) (by omega) (.slice A3 (fl s i).seen.length c3) (fl s i).seen y _ _ _ (fun _ => True) (fun _ => False) (by rfl) (by rfl) ?aO ?aR (fun _ _ h => h) (fun _ h => h.elim) ?aF ?aB ?aS ?aL ?_
  case aR => exact Kd.C_below HCY.out (below_step (below_drew1 (Below.refl wr.heap.size wr)) HBB.out)
  case aB => exact (by repeat (first | (with_reducible first | exact HBB.out | apply below_alloc | apply pw_below_drewN | apply below_drew1) | exact HBB.out))
  case aF => exact fun _ _ => trivial
  case aO => exact (by (with_reducible repeat (first | apply Kd.R_alloc | apply Kd.R_drewN | apply Kd.R_drew)); exact HOa.out)
  case aS => exact (below_size (by repeat (first | (with_reducible first | exact HBB.out | apply below_alloc | apply pw_below_drewN | apply below_drew1) | exact HBB.out)))
  case aL => exact HLY.out
  intro vb w6 ho hb hg hat
  have n0_ := Aside0.mk hb
  have n1_ := Aside0.mk ho
  have hfr := (hb.frozen (p := ⟨g, 3 + i * 3, none⟩) HGL.out).trans hfs
  have hc3 := (hb.cell (p := ⟨b3, 0, none⟩) HG3.out).trans hbx
  clear HBB HOa
  have HBB := n0_
  have HOa := n1_
  clear n0_ n1_
  obtain ⟨A7, c7, e7⟩ := Kd.R_slice HOa.out
  subst e7
  refine hK.out _ _ ⟨(hb.cell (p := ⟨g, 3 + i * 3, none⟩) HGL.out).trans hs, hfr, hc3⟩ (fun hHeld => ?_)
  clear hK K
  refine norm_ (a' := ?_) ?_ ?_
  rotate_left
  · show Act.put _ (some 20) _ = _
    simp only [Act.put, List.setIfInBounds_toArray, List.set_cons_zero, List.set_cons_succ, i64_w, i32_w]
    rfl
  refine pure_ (i := 10) (N := some 21) (v := ?_) (a' := ?_) #[true, true, true, true, true, true, true, true, true, true, true, false, false] rfl rfl (by kernel_rfl) (fun _ _ _ h => h) (Or.inl ⟨by rfl, ?_⟩) ?_ ?_
  rotate_left
  · intro w'
    go_simp
    with_reducible rfl
  rotate_left
  · simp only [Act.put, List.setIfInBounds_toArray, List.set_cons_zero, List.set_cons_succ, i64_w, i32_w]
    rfl
  refine pure_ (i := 11) (N := some 22) (v := ?_) (a' := ?_) #[true, true, true, true, true, true, true, true, true, true, true, true, false] rfl rfl (by kernel_rfl) (fun _ _ _ h => h) (Or.inl ⟨by rfl, ?_⟩) ?_ ?_
  rotate_left
  · intro w'
    go_simp
    with_reducible rfl
  rotate_left
  · simp only [Act.put, List.setIfInBounds_toArray, List.set_cons_zero, List.set_cons_succ, i64_w, i32_w]
    rfl
  refine last_ (i := 12) (N := none) #[true, true, true, true, true, true, true, true, true, true, true, true, true] rfl rfl (by kernel_rfl) (by decide) (fun K hK => ?_)
  obtain ⟨hx0, hx1, hx2⟩ := hHeld
  refine skip_ (w1 := ?_) (by rfl) rfl ?_ ?_
  rotate_left
  · go_simp
    rfl
  refine hK.out _ _ ?_
  clear hK K
  refine done_ (by kernel_rfl) ?_

  have HB3 := Aside0.mk (below_step (below_drew1 (Below.refl wr.heap.size wr)) HBB.out)
  clear hs hfs hbx
  go_wp2
  first | go_end0 | ((try simp only [Exit.inBlock, Exit.then]); refine bodyPost_ret (results_none rfl _ _ _) rfl ?_)
  rw [← List.length_append]
  have hw6 : Wr g wr w6 := Wr.of_below HB3.out
  have hA6 := HA.out.same (HB3.out.block g HGL.out)
  have hRw := Rw.of_R HOa.out (G := G) (fun b hb => Nat.lt_of_lt_of_le (H.out.lt b hb) HW.out.size)
  have hw := hw6.set (3 + i * 3) (.slice A7 ((fl s i).seen ++ y).length c7)
  have hw63 := (Wr.refl g w6).set (3 + i * 3) (.slice A7 ((fl s i).seen ++ y).length c7)
  have hI : IsD G wr g s := ⟨fun b hb => Nat.lt_of_lt_of_le (H.out.lt b hb) HW.out.size, H.out.gg, d, HA.out, HR.out⟩
  refine ⟨rfl, hI.file HA.out.1 HR.out hi (hA6.setS hi _) hw ⟨hRw.wr hw63 H.out.gg, (HR.out.2.2.2.2.2.2 i hi).2.1.wr hw H.out.gg, (HR.out.2.2.2.2.2.2 i hi).2.2⟩, HW.out.trans hw⟩
end Go.Proofs.Ytehjbhnlbjbhfaa.Dk
