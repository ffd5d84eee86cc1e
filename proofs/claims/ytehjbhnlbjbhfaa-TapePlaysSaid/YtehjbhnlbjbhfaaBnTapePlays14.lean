/- Texts that the row of LawTapePlays rests on, part 14 of 15: contracts of the functions, their walks, plain laws. -/
import Derived.Test.YtehjbhnlbjbhfaaBnTapePlays13
-- RtF
namespace Go.Proofs.Ytehjbhnlbjbhfaa.Rt
open Go Go.RowKit Go.Proofs.YtehjbhnlbjbhfaaW.PrintWords Go.Proofs.YtehjbhnlbjbhfaaW.PrintLast Go.Proofs.YtehjbhnlbjbhfaaW.PrintMore Go.Proofs.Ytehjbhnlbjbhfaa.Wire Go.Proofs.Ytehjbhnlbjbhfaa.Wk Go.Proofs.Ytehjbhnlbjbhfaa.Dk Go.Proofs.Ytehjbhnlbjbhfaa.Tp Go.Proofs.Ytehjbhnlbjbhfaa.Rd
set_option linter.unusedVariables false
set_option linter.unusedSimpArgs false
theorem St.reads {G : Nat → Prop} {W : World} {A : Option Addr} {n c : Nat} {xs : List ByteArray} (h : St G W (.slice A n c) xs) : xs.length ≤ c ∧ Kd.C Kd.string W A xs.length xs := by
  obtain ⟨A', c', e, h1, h2⟩ := h.slice
  injection e with e1 e2 e3
  subst e1 e3
  exact ⟨h1, h2⟩
theorem strs_same (A0 : Option Addr) (c0 : Nat) (A1 : Option Addr) (c1 : Nat) (l : List ByteArray) (n0 n1 : Nat) (h0 : n0 = l.length) (h1 : n1 = l.length) (w : World) (hr0 : Kd.C Kd.string w A0 l.length l) (hc0 : l.length ≤ c0) (hr1 : Kd.C Kd.string w A1 l.length l) (hc1 : l.length ≤ c1) :
    Calls Try.prog 39 #[.slice A0 n0 c0, .slice A1 n1 c1] w fun e w' => e = .returned (.bool true) ∧ Drawn0 w w' := by
  subst h0 h1
  have := strs_calls A0 c0 l A1 c1 l w hr0 hc0 hr1 hc1
  rw [eqSt_self] at this
  exact this
theorem tells_nil (w : World) : Calls Try.prog 35 #[.pointer none, .pointer none] w fun e w' => e = .returned (.bool true) ∧ Drawn0 w w' := by
  go_enter Try.func35, Try.ntmps35
  go_wp2_with (fail)
  go_ret
  exact ⟨rfl, 0, rfl⟩
set_option maxHeartbeats 8000000 in
set_option maxRecDepth 100000 in
theorem tells_calls (G G' : Nat → Prop) (t g y h : Nat) (x : TS) (w : World) (hT : IsT G w t g x) (hY : IsY G' w y h x) (hb : Bnd x 100000000) :
    Calls Try.prog 35 #[.pointer (some ⟨t, 0, none⟩), .pointer (some ⟨y, 0, none⟩)] w fun e w' => e = .returned (.bool true) ∧ Below w.heap.size w w' := by
  have HT := Aside0.mk hT
  have HBN := Aside0.mk hb
  have HMN := Aside0.mk (show x.r.l.length < 1000000000 by have := hb.many; omega)
  obtain ⟨hgt, lV, hblk, hLr⟩ := hY
  obtain ⟨Al, cl, rfl, _, _⟩ := hLr.slice
  have HYL := Aside0.mk hLr
  have hml : (x.r.l.map strOfNums).length = x.r.l.length := by simp
  rw [hml] at hblk
  have HBX := blk_drew hblk
  have dk : ((x.kept : Int) == (x.kept : Int)) = true := by simp
  have dl : ((x.r.l.length : Int) == (x.r.l.length : Int)) = true := by simp
  clear hT hb hblk hLr hml
  go_enter Try.func35, Try.ntmps35
  go_wp2_with (fail)
  refine start_ (n := 37) (S := fun w' => Below w.heap.size w w' ∧ w'.heap[y]? = some (.cells (docCells x (strOfNums x.r.base) (.slice Al x.r.l.length cl) h) 92 (0, 0))) (ds := []) #[false, false, false, false, false, false, false, false, false, false, false, false, false, false, false, false, false, false, false, false, false, false, false, false, false, false, false, false, false, false, false, false, false, false, false, false, false] (by kernel_rfl) rfl rfl ⟨below_drew1 (Below.refl _ _), HBX⟩ (fun hHeld => ?_)
  refine pure_ (i := 0) (N := some 17) (v := ?_) (a' := ?_) #[true, false, false, false, false, false, false, false, false, false, false, false, false, false, false, false, false, false, false, false, false, false, false, false, false, false, false, false, false, false, false, false, false, false, false, false, false] rfl rfl (by kernel_rfl) (fun _ _ _ h => h) (Or.inl ⟨by rfl, ?_⟩) ?_ ?_
  rotate_left
  · intro w'
    go_simp
    with_reducible rfl
  rotate_left
  · simp only [Act.put, List.setIfInBounds_toArray, List.set_cons_zero, List.set_cons_succ, i64_w, i32_w]
    rfl
  refine pure_ (i := 3) (N := some 20) (v := ?_) (a' := ?_) #[true, false, false, true, false, false, false, false, false, false, false, false, false, false, false, false, false, false, false, false, false, false, false, false, false, false, false, false, false, false, false, false, false, false, false, false, false] rfl rfl (by kernel_rfl) (fun _ _ _ h => h) (Or.inl ⟨by rfl, ?_⟩) ?_ ?_
  rotate_left
  · intro w'
    go_simp
    with_reducible rfl
  rotate_left
  · simp only [Act.put, List.setIfInBounds_toArray, List.set_cons_zero, List.set_cons_succ, i64_w, i32_w]
    rfl
  refine pure_ (i := 4) (N := some 21) (v := ?_) (a' := ?_) #[true, false, false, true, true, false, false, false, false, false, false, false, false, false, false, false, false, false, false, false, false, false, false, false, false, false, false, false, false, false, false, false, false, false, false, false, false] rfl rfl (by kernel_rfl) (fun _ _ _ h => h) (Or.inl ⟨by rfl, ?_⟩) ?_ ?_
  rotate_left
  · intro w'
    go_simp
    with_reducible rfl
  rotate_left
  · simp only [Act.put, List.setIfInBounds_toArray, List.set_cons_zero, List.set_cons_succ, i64_w, i32_w]
    rfl
  refine pure_ (i := 5) (N := some 22) (v := ?_) (a' := ?_) #[true, false, false, true, true, true, false, false, false, false, false, false, false, false, false, false, false, false, false, false, false, false, false, false, false, false, false, false, false, false, false, false, false, false, false, false, false] rfl rfl (by kernel_rfl) (fun _ _ _ h => h) (Or.inl ⟨by rfl, ?_⟩) ?_ ?_
  rotate_left
  · intro w'
    go_simp
    with_reducible rfl
  rotate_left
  · simp only [Act.put, List.setIfInBounds_toArray, List.set_cons_zero, List.set_cons_succ, i64_w, i32_w]
    rfl
  refine take_ (i := 6) (N := some 23) (v := ?_) (a' := ?_) #[true, false, false, true, true, true, true, false, false, false, false, false, false, false, false, false, false, false, false, false, false, false, false, false, false, false, false, false, false, false, false, false, false, false, false, false, false] rfl rfl (by kernel_rfl) (fun _ _ _ h => h) (Or.inl ⟨by rfl, ?_⟩) hHeld ?_ ?_
  rotate_left
  · rintro w' ⟨s0, s1⟩
    have d2_ := (blk_cell s1 2).trans (show _ = some (Value.string (strOfNums x.r.base)) from rfl)
    go_simp
    with_reducible rfl
  rotate_left
  · simp only [Act.put, List.setIfInBounds_toArray, List.set_cons_zero, List.set_cons_succ, i64_w, i32_w]
    rfl
  refine one_ (i := 1) (N := some 18) #[true, true, false, true, true, true, true, false, false, false, false, false, false, false, false, false, false, false, false, false, false, false, false, false, false, false, false, false, false, false, false, false, false, false, false, false, false] rfl rfl (by kernel_rfl) (by decide) (fun K hK => ?_)
  refine goes_ Try.func29 (by kernel_rfl) rfl #[.pointer (some ⟨t, 0, none⟩)] (by rfl) rfl rfl (by first | rfl | (simp; done) | (simp only [List.map_toArray, List.map_cons, List.map_nil]; rfl)) ?_
  with_reducible refine (Base_calls G t g x _ (HT.out.below hHeld.1) (by have := HBN.out.base; omega)).mono ?_
  rintro e w6 ⟨v, rfl, hR, hb⟩
  refine ⟨_, rfl, ?_⟩
  obtain ⟨P1, p1, e6⟩ := Kd.R_slice hR
  subst e6
  have hk_ := Kd.C_string (P := Try.prog) (A := P1) (c := p1) Try.underlying32 Try.underlying5 Try.underlying9 (Kd.R_reads' hR).2.2
  clear hR
  refine hK.out _ _ ⟨below_step hHeld.1 hb, blk_below hHeld.2 hb⟩ (fun hHeld => ?_)
  clear hK K
  refine norm_ (a' := ?_) ?_ ?_
  rotate_left
  · show Act.put _ (some 18) _ = _
    simp only [Act.put, List.setIfInBounds_toArray, List.set_cons_zero, List.set_cons_succ, i64_w, i32_w]
    rfl
  refine one_ (i := 2) (N := some 19) #[true, true, true, true, true, true, true, false, false, false, false, false, false, false, false, false, false, false, false, false, false, false, false, false, false, false, false, false, false, false, false, false, false, false, false, false, false] rfl rfl (by kernel_rfl) (by decide) (fun K hK => ?_)
  refine value_ (w1 := ?_) (v := ?_) (by rfl) rfl ?_ ?_
  rotate_left 2
  · go_simp
    constructor
    · rfl
    · rfl
  clear hk_
  refine hK.out _ _ ⟨hHeld.1, hHeld.2⟩ (fun hHeld => ?_)
  clear hK K
  refine norm_ (a' := ?_) ?_ ?_
  rotate_left
  · show Act.put _ (some 19) _ = _
    simp only [Act.put, List.setIfInBounds_toArray, List.set_cons_zero, List.set_cons_succ, i64_w, i32_w]
    rfl
  refine pure_ (i := 7) (N := some 24) (v := ?_) (a' := ?_) #[true, true, true, true, true, true, true, true, false, false, false, false, false, false, false, false, false, false, false, false, false, false, false, false, false, false, false, false, false, false, false, false, false, false, false, false, false] rfl rfl (by kernel_rfl) (fun _ _ _ h => h) (Or.inl ⟨by rfl, ?_⟩) ?_ ?_
  rotate_left
  · intro w'
    go_simp
    with_reducible rfl
  rotate_left
  · simp only [Act.put, List.setIfInBounds_toArray, List.set_cons_zero, List.set_cons_succ, i64_w, i32_w]
    rfl
  refine pure_ (i := 8) (N := some 25) (v := ?_) (a' := ?_) #[true, true, true, true, true, true, true, true, true, false, false, false, false, false, false, false, false, false, false, false, false, false, false, false, false, false, false, false, false, false, false, false, false, false, false, false, false] rfl rfl (by kernel_rfl) (fun _ _ _ h => h) (Or.inl ⟨by rfl, ?_⟩) ?_ ?_
  rotate_left
  · intro w'
    go_simp
    with_reducible rfl
  rotate_left
  · simp only [Act.put, List.setIfInBounds_toArray, List.set_cons_zero, List.set_cons_succ, i64_w, i32_w]
    rfl
  refine pure_ (i := 9) (N := some 26) (v := ?_) (a' := ?_) #[true, true, true, true, true, true, true, true, true, true, false, false, false, false, false, false, false, false, false, false, false, false, false, false, false, false, false, false, false, false, false, false, false, false, false, false, false] rfl rfl (by kernel_rfl) (fun _ _ _ h => h) (Or.inl ⟨by rfl, ?_⟩) ?_ ?_
  rotate_left
  · intro w'
    go_simp
    with_reducible rfl
  rotate_left
  · simp only [Act.put, List.setIfInBounds_toArray, List.set_cons_zero, List.set_cons_succ, i64_w, i32_w]
    rfl
  refine pure_ (i := 11) (N := some 28) (v := ?_) (a' := ?_) #[true, true, true, true, true, true, true, true, true, true, false, true, false, false, false, false, false, false, false, false, false, false, false, false, false, false, false, false, false, false, false, false, false, false, false, false, false] rfl rfl (by kernel_rfl) (fun _ _ _ h => h) (Or.inl ⟨by rfl, ?_⟩) ?_ ?_
  rotate_left
  · intro w'
    go_simp
    with_reducible rfl
  rotate_left
  · simp only [Act.put, List.setIfInBounds_toArray, List.set_cons_zero, List.set_cons_succ, i64_w, i32_w]
    rfl
  refine pure_ (i := 12) (N := some 29) (v := ?_) (a' := ?_) #[true, true, true, true, true, true, true, true, true, true, false, true, true, false, false, false, false, false, false, false, false, false, false, false, false, false, false, false, false, false, false, false, false, false, false, false, false] rfl rfl (by kernel_rfl) (fun _ _ _ h => h) (Or.inl ⟨by rfl, ?_⟩) ?_ ?_
  rotate_left
  · intro w'
    go_simp
    with_reducible rfl
  rotate_left
  · simp only [Act.put, List.setIfInBounds_toArray, List.set_cons_zero, List.set_cons_succ, i64_w, i32_w]
    rfl
  refine pure_ (i := 13) (N := some 30) (v := ?_) (a' := ?_) #[true, true, true, true, true, true, true, true, true, true, false, true, true, true, false, false, false, false, false, false, false, false, false, false, false, false, false, false, false, false, false, false, false, false, false, false, false] rfl rfl (by kernel_rfl) (fun _ _ _ h => h) (Or.inl ⟨by rfl, ?_⟩) ?_ ?_
  rotate_left
  · intro w'
    go_simp
    with_reducible rfl
  rotate_left
  · simp only [Act.put, List.setIfInBounds_toArray, List.set_cons_zero, List.set_cons_succ, i64_w, i32_w]
    rfl
  refine take_ (i := 14) (N := some 31) (v := ?_) (a' := ?_) #[true, true, true, true, true, true, true, true, true, true, false, true, true, true, true, false, false, false, false, false, false, false, false, false, false, false, false, false, false, false, false, false, false, false, false, false, false] rfl rfl (by kernel_rfl) (fun _ _ _ h => h) (Or.inl ⟨by rfl, ?_⟩) hHeld ?_ ?_
  rotate_left
  · rintro w' ⟨s0, s1⟩
    have d2_ := (blk_cell s1 3).trans (show _ = some (Value.slice Al x.r.l.length cl) from rfl)
    go_simp
    with_reducible rfl
  rotate_left
  · simp only [Act.put, List.setIfInBounds_toArray, List.set_cons_zero, List.set_cons_succ, i64_w, i32_w]
    rfl
  refine one_ (i := 10) (N := some 27) #[true, true, true, true, true, true, true, true, true, true, true, true, true, true, true, false, false, false, false, false, false, false, false, false, false, false, false, false, false, false, false, false, false, false, false, false, false] rfl rfl (by kernel_rfl) (by decide) (fun K hK => ?_)
  refine goes_ Try.func40 (by kernel_rfl) rfl #[.pointer (some ⟨t, 0, none⟩)] (by rfl) rfl rfl (by first | rfl | (simp; done) | (simp only [List.map_toArray, List.map_cons, List.map_nil]; rfl)) ?_
  with_reducible refine (records_calls G t g x _ (HT.out.below hHeld.1) HMN.out (fun d hd => by have := HBN.out.l d hd; omega)).mono ?_
  rintro e w7 ⟨v, rfl, hR, hb⟩
  refine ⟨_, rfl, ?_⟩
  obtain ⟨Q1, q1, e7⟩ := Kd.R_slice hR
  subst e7
  have HQ1 := Aside0.mk (And.intro (Kd.R_reads' hR).2.1 (Kd.R_reads' hR).2.2)
  have HY7 := Aside0.mk (St.reads (HYL.out.below (below_step hHeld.1 hb)))
  clear hR
  refine hK.out _ _ ⟨below_step hHeld.1 hb, blk_below hHeld.2 hb⟩ (fun hHeld => ?_)
  clear hK K
  refine norm_ (a' := ?_) ?_ ?_
  rotate_left
  · show Act.put _ (some 27) _ = _
    simp only [Act.put, List.setIfInBounds_toArray, List.set_cons_zero, List.set_cons_succ, i64_w, i32_w]
    rfl
  refine one_ (i := 15) (N := some 32) #[true, true, true, true, true, true, true, true, true, true, true, true, true, true, true, true, false, false, false, false, false, false, false, false, false, false, false, false, false, false, false, false, false, false, false, false, false] rfl rfl (by kernel_rfl) (by decide) (fun K hK => ?_)
  refine goes_ Try.func39 (by kernel_rfl) rfl #[.slice Q1 (x.r.l.map strOfNums).length q1, .slice Al x.r.l.length cl] (by rfl) rfl rfl (by first | rfl | (simp; done) | (simp only [List.map_toArray, List.map_cons, List.map_nil]; rfl)) ?_
  with_reducible refine (strs_same Q1 q1 Al cl (x.r.l.map strOfNums) (x.r.l.map strOfNums).length x.r.l.length rfl (by simp) _ HQ1.out.2 HQ1.out.1 HY7.out.2 HY7.out.1).mono ?_
  rintro e w8 ⟨rfl, ⟨n8, rfl⟩⟩
  refine ⟨_, rfl, ?_⟩
  refine hK.out _ _ ⟨pw_below_drewN hHeld.1 n8, blk_drewN hHeld.2 n8⟩ (fun hHeld => ?_)
  clear hK K
  refine norm_ (a' := ?_) ?_ ?_
  rotate_left
  · show Act.put _ (some 32) _ = _
    simp only [Act.put, List.setIfInBounds_toArray, List.set_cons_zero, List.set_cons_succ, i64_w, i32_w]
    rfl
  refine pure_ (i := 16) (N := some 33) (v := ?_) (a' := ?_) #[true, true, true, true, true, true, true, true, true, true, true, true, true, true, true, true, true, false, false, false, false, false, false, false, false, false, false, false, false, false, false, false, false, false, false, false, false] rfl rfl (by kernel_rfl) (fun _ _ _ h => h) (Or.inl ⟨by rfl, ?_⟩) ?_ ?_
  rotate_left
  · intro w'
    go_simp
    with_reducible rfl
  rotate_left
  · simp only [Act.put, List.setIfInBounds_toArray, List.set_cons_zero, List.set_cons_succ, i64_w, i32_w]
    rfl
  refine pure_ (i := 17) (N := some 34) (v := ?_) (a' := ?_) #[true, true, true, true, true, true, true, true, true, true, true, true, true, true, true, true, true, true, false, false, false, false, false, false, false, false, false, false, false, false, false, false, false, false, false, false, false] rfl rfl (by kernel_rfl) (fun _ _ _ h => h) (Or.inl ⟨by rfl, ?_⟩) ?_ ?_
  rotate_left
  · intro w'
    go_simp
    with_reducible rfl
  rotate_left
  · simp only [Act.put, List.setIfInBounds_toArray, List.set_cons_zero, List.set_cons_succ, i64_w, i32_w]
    rfl
  refine pure_ (i := 18) (N := some 35) (v := ?_) (a' := ?_) #[true, true, true, true, true, true, true, true, true, true, true, true, true, true, true, true, true, true, true, false, false, false, false, false, false, false, false, false, false, false, false, false, false, false, false, false, false] rfl rfl (by kernel_rfl) (fun _ _ _ h => h) (Or.inl ⟨by rfl, ?_⟩) ?_ ?_
  rotate_left
  · intro w'
    go_simp
    with_reducible rfl
  rotate_left
  · simp only [Act.put, List.setIfInBounds_toArray, List.set_cons_zero, List.set_cons_succ, i64_w, i32_w]
    rfl
  refine pure_ (i := 20) (N := some 37) (v := ?_) (a' := ?_) #[true, true, true, true, true, true, true, true, true, true, true, true, true, true, true, true, true, true, true, false, true, false, false, false, false, false, false, false, false, false, false, false, false, false, false, false, false] rfl rfl (by kernel_rfl) (fun _ _ _ h => h) (Or.inl ⟨by rfl, ?_⟩) ?_ ?_
  rotate_left
  · intro w'
    go_simp
    with_reducible rfl
  rotate_left
  · simp only [Act.put, List.setIfInBounds_toArray, List.set_cons_zero, List.set_cons_succ, i64_w, i32_w]
    rfl
  refine pure_ (i := 21) (N := some 38) (v := ?_) (a' := ?_) #[true, true, true, true, true, true, true, true, true, true, true, true, true, true, true, true, true, true, true, false, true, true, false, false, false, false, false, false, false, false, false, false, false, false, false, false, false] rfl rfl (by kernel_rfl) (fun _ _ _ h => h) (Or.inl ⟨by rfl, ?_⟩) ?_ ?_
  rotate_left
  · intro w'
    go_simp
    with_reducible rfl
  rotate_left
  · simp only [Act.put, List.setIfInBounds_toArray, List.set_cons_zero, List.set_cons_succ, i64_w, i32_w]
    rfl
  refine pure_ (i := 22) (N := some 39) (v := ?_) (a' := ?_) #[true, true, true, true, true, true, true, true, true, true, true, true, true, true, true, true, true, true, true, false, true, true, true, false, false, false, false, false, false, false, false, false, false, false, false, false, false] rfl rfl (by kernel_rfl) (fun _ _ _ h => h) (Or.inl ⟨by rfl, ?_⟩) ?_ ?_
  rotate_left
  · intro w'
    go_simp
    with_reducible rfl
  rotate_left
  · simp only [Act.put, List.setIfInBounds_toArray, List.set_cons_zero, List.set_cons_succ, i64_w, i32_w]
    rfl
  refine take_ (i := 23) (N := some 40) (v := ?_) (a' := ?_) #[true, true, true, true, true, true, true, true, true, true, true, true, true, true, true, true, true, true, true, false, true, true, true, true, false, false, false, false, false, false, false, false, false, false, false, false, false] rfl rfl (by kernel_rfl) (fun _ _ _ h => h) (Or.inl ⟨by rfl, ?_⟩) hHeld ?_ ?_
  rotate_left
  · rintro w' ⟨s0, s1⟩
    have d2_ := (blk_cell s1 5).trans (show _ = some (Value.int .i64 (x.kept : Int)) from rfl)
    go_simp
    with_reducible rfl
  rotate_left
  · simp only [Act.put, List.setIfInBounds_toArray, List.set_cons_zero, List.set_cons_succ, i64_w, i32_w]
    rfl
  refine one_ (i := 19) (N := some 36) #[true, true, true, true, true, true, true, true, true, true, true, true, true, true, true, true, true, true, true, true, true, true, true, true, false, false, false, false, false, false, false, false, false, false, false, false, false] rfl rfl (by kernel_rfl) (by decide) (fun K hK => ?_)
  refine goes_ Try.func28 (by kernel_rfl) rfl #[.pointer (some ⟨t, 0, none⟩)] (by rfl) rfl rfl (by first | rfl | (simp; done) | (simp only [List.map_toArray, List.map_cons, List.map_nil]; rfl)) ?_
  with_reducible refine (Kept_calls G t g x _ (HT.out.below hHeld.1)).mono ?_
  rintro e w9 ⟨rfl, ⟨n9, rfl⟩⟩
  refine ⟨_, rfl, ?_⟩
  refine hK.out _ _ ⟨pw_below_drewN hHeld.1 n9, blk_drewN hHeld.2 n9⟩ (fun hHeld => ?_)
  clear hK K
  refine norm_ (a' := ?_) ?_ ?_
  rotate_left
  · show Act.put _ (some 36) _ = _
    simp only [Act.put, List.setIfInBounds_toArray, List.set_cons_zero, List.set_cons_succ, i64_w, i32_w]
    rfl
  refine pure_ (i := 24) (N := some 41) (v := ?_) (a' := ?_) #[true, true, true, true, true, true, true, true, true, true, true, true, true, true, true, true, true, true, true, true, true, true, true, true, true, false, false, false, false, false, false, false, false, false, false, false, false] rfl rfl (by kernel_rfl) (fun _ _ _ h => h) (Or.inl ⟨by rfl, ?_⟩) ?_ ?_
  rotate_left
  · intro w'
    go_simp
    with_reducible rfl
  rotate_left
  · simp only [Act.put, List.setIfInBounds_toArray, List.set_cons_zero, List.set_cons_succ, i64_w, i32_w]
    rfl
  refine pure_ (i := 25) (N := some 42) (v := ?_) (a' := ?_) #[true, true, true, true, true, true, true, true, true, true, true, true, true, true, true, true, true, true, true, true, true, true, true, true, true, true, false, false, false, false, false, false, false, false, false, false, false] rfl rfl (by kernel_rfl) (fun _ _ _ h => h) (Or.inl ⟨by rfl, ?_⟩) ?_ ?_
  rotate_left
  · intro w'
    go_simp
    with_reducible rfl
  rotate_left
  · simp only [Act.put, List.setIfInBounds_toArray, List.set_cons_zero, List.set_cons_succ, i64_w, i32_w]
    rfl
  refine pure_ (i := 26) (N := some 43) (v := ?_) (a' := ?_) #[true, true, true, true, true, true, true, true, true, true, true, true, true, true, true, true, true, true, true, true, true, true, true, true, true, true, true, false, false, false, false, false, false, false, false, false, false] rfl rfl (by kernel_rfl) (fun _ _ _ h => h) (Or.inl ⟨by rfl, ?_⟩) ?_ ?_
  rotate_left
  · intro w'
    go_simp
    with_reducible rfl
  rotate_left
  · simp only [Act.put, List.setIfInBounds_toArray, List.set_cons_zero, List.set_cons_succ, i64_w, i32_w]
    rfl
  refine pure_ (i := 27) (N := some 44) (v := ?_) (a' := ?_) #[true, true, true, true, true, true, true, true, true, true, true, true, true, true, true, true, true, true, true, true, true, true, true, true, true, true, true, true, false, false, false, false, false, false, false, false, false] rfl rfl (by kernel_rfl) (fun _ _ _ h => h) (Or.inl ⟨by rfl, ?_⟩) ?_ ?_
  rotate_left
  · intro w'
    go_simp
    with_reducible rfl
  rotate_left
  · simp only [Act.put, List.setIfInBounds_toArray, List.set_cons_zero, List.set_cons_succ, i64_w, i32_w]
    rfl
  refine pure_ (i := 29) (N := some 46) (v := ?_) (a' := ?_) #[true, true, true, true, true, true, true, true, true, true, true, true, true, true, true, true, true, true, true, true, true, true, true, true, true, true, true, true, false, true, false, false, false, false, false, false, false] rfl rfl (by kernel_rfl) (fun _ _ _ h => h) (Or.inl ⟨by rfl, ?_⟩) ?_ ?_
  rotate_left
  · intro w'
    go_simp
    with_reducible rfl
  rotate_left
  · simp only [Act.put, List.setIfInBounds_toArray, List.set_cons_zero, List.set_cons_succ, i64_w, i32_w]
    rfl
  refine pure_ (i := 30) (N := some 47) (v := ?_) (a' := ?_) #[true, true, true, true, true, true, true, true, true, true, true, true, true, true, true, true, true, true, true, true, true, true, true, true, true, true, true, true, false, true, true, false, false, false, false, false, false] rfl rfl (by kernel_rfl) (fun _ _ _ h => h) (Or.inl ⟨by rfl, ?_⟩) ?_ ?_
  rotate_left
  · intro w'
    go_simp
    with_reducible rfl
  rotate_left
  · simp only [Act.put, List.setIfInBounds_toArray, List.set_cons_zero, List.set_cons_succ, i64_w, i32_w]
    rfl
  refine pure_ (i := 31) (N := some 48) (v := ?_) (a' := ?_) #[true, true, true, true, true, true, true, true, true, true, true, true, true, true, true, true, true, true, true, true, true, true, true, true, true, true, true, true, false, true, true, true, false, false, false, false, false] rfl rfl (by kernel_rfl) (fun _ _ _ h => h) (Or.inl ⟨by rfl, ?_⟩) ?_ ?_
  rotate_left
  · intro w'
    go_simp
    with_reducible rfl
  rotate_left
  · simp only [Act.put, List.setIfInBounds_toArray, List.set_cons_zero, List.set_cons_succ, i64_w, i32_w]
    rfl
  refine take_ (i := 32) (N := some 49) (v := ?_) (a' := ?_) #[true, true, true, true, true, true, true, true, true, true, true, true, true, true, true, true, true, true, true, true, true, true, true, true, true, true, true, true, false, true, true, true, true, false, false, false, false] rfl rfl (by kernel_rfl) (fun _ _ _ h => h) (Or.inl ⟨by rfl, ?_⟩) hHeld ?_ ?_
  rotate_left
  · rintro w' ⟨s0, s1⟩
    have d2_ := (blk_cell s1 3).trans (show _ = some (Value.slice Al x.r.l.length cl) from rfl)
    go_simp
    with_reducible rfl
  rotate_left
  · simp only [Act.put, List.setIfInBounds_toArray, List.set_cons_zero, List.set_cons_succ, i64_w, i32_w]
    rfl
  refine pure_ (i := 33) (N := some 50) (v := ?_) (a' := ?_) #[true, true, true, true, true, true, true, true, true, true, true, true, true, true, true, true, true, true, true, true, true, true, true, true, true, true, true, true, false, true, true, true, true, true, false, false, false] rfl rfl (by kernel_rfl) (fun _ _ _ h => h) (Or.inl ⟨by rfl, ?_⟩) ?_ ?_
  rotate_left
  · intro w'
    go_simp
    with_reducible rfl
  rotate_left
  · simp only [Act.put, List.setIfInBounds_toArray, List.set_cons_zero, List.set_cons_succ, i64_w, i32_w]
    rfl
  refine one_ (i := 28) (N := some 45) #[true, true, true, true, true, true, true, true, true, true, true, true, true, true, true, true, true, true, true, true, true, true, true, true, true, true, true, true, true, true, true, true, true, true, false, false, false] rfl rfl (by kernel_rfl) (by decide) (fun K hK => ?_)
  refine goes_ Try.func27 (by kernel_rfl) rfl #[.pointer (some ⟨t, 0, none⟩)] (by rfl) rfl rfl (by first | rfl | (simp; done) | (simp only [List.map_toArray, List.map_cons, List.map_nil]; rfl)) ?_
  with_reducible refine (Len_calls G t g x _ (HT.out.below hHeld.1)).mono ?_
  rintro e w10 ⟨rfl, ⟨n10, rfl⟩⟩
  refine ⟨_, rfl, ?_⟩
  refine hK.out _ _ ⟨pw_below_drewN hHeld.1 n10, blk_drewN hHeld.2 n10⟩ (fun hHeld => ?_)
  clear hK K
  refine norm_ (a' := ?_) ?_ ?_
  rotate_left
  · show Act.put _ (some 45) _ = _
    simp only [Act.put, List.setIfInBounds_toArray, List.set_cons_zero, List.set_cons_succ, i64_w, i32_w]
    rfl
  refine pure_ (i := 34) (N := some 51) (v := ?_) (a' := ?_) #[true, true, true, true, true, true, true, true, true, true, true, true, true, true, true, true, true, true, true, true, true, true, true, true, true, true, true, true, true, true, true, true, true, true, true, false, false] rfl rfl (by kernel_rfl) (fun _ _ _ h => h) (Or.inl ⟨by rfl, ?_⟩) ?_ ?_
  rotate_left
  · intro w'
    go_simp
    with_reducible rfl
  rotate_left
  · simp only [Act.put, List.setIfInBounds_toArray, List.set_cons_zero, List.set_cons_succ, i64_w, i32_w]
    rfl
  refine pure_ (i := 35) (N := some 52) (v := ?_) (a' := ?_) #[true, true, true, true, true, true, true, true, true, true, true, true, true, true, true, true, true, true, true, true, true, true, true, true, true, true, true, true, true, true, true, true, true, true, true, true, false] rfl rfl (by kernel_rfl) (fun _ _ _ h => h) (Or.inl ⟨by rfl, ?_⟩) ?_ ?_
  rotate_left
  · intro w'
    go_simp
    with_reducible rfl
  rotate_left
  · simp only [Act.put, List.setIfInBounds_toArray, List.set_cons_zero, List.set_cons_succ, i64_w, i32_w]
    rfl
  refine pure_ (i := 36) (N := some 4) (v := ?_) (a' := ?_) #[true, true, true, true, true, true, true, true, true, true, true, true, true, true, true, true, true, true, true, true, true, true, true, true, true, true, true, true, true, true, true, true, true, true, true, true, true] rfl rfl (by kernel_rfl) (fun _ _ _ h => h) (Or.inl ⟨by rfl, ?_⟩) ?_ ?_
  rotate_left
  · intro w'
    go_simp
    with_reducible rfl
  rotate_left
  · simp only [Act.put, List.setIfInBounds_toArray, List.set_cons_zero, List.set_cons_succ, i64_w, i32_w]
    rfl
  refine done_ (by kernel_rfl) ?_
  have HBE := Aside0.mk hHeld.1
  clear hHeld
  go_wp2_with (fail)
  go_ret
  exact ⟨rfl, HBE.out⟩
set_option maxHeartbeats 8000000 in
set_option maxRecDepth 100000 in
theorem face_calls (G G' : Nat → Prop) (g h : Nat) (s : DS) (w : World) (hD : IsD G w g s) (hX : IsX G' w h s) (hok : Okk s) (hb : BsD s) (hrm : s.room ≠ 0) :
    Calls Try.prog 36 #[.pointer (some ⟨g, 0, none⟩), .pointer (some ⟨h, 0, none⟩)] w fun e w' => e = .returned (.bool true) ∧ Below w.heap.size w w' := by
  have HD := Aside0.mk hD
  have HX := Aside0.mk hX
  have HOK := Aside0.mk hok
  have HBY := Aside0.mk (show ∀ f ∈ s.fs, By f.seen from fun f hf => (hb f hf).1)
  have HRM := Aside0.mk hrm
  clear hD hX hok hb hrm
  go_enter Try.func36, Try.ntmps36
  go_wp2_with (fail)
  go_loopg [10] 2 (fun fu v10 wr => ∃ j : Nat, j + fu = 2 ∧ v10 = .int .i64 (j : Int) ∧ Aside0 (Below w.heap.size w wr))
  case atStart => exact ⟨0, rfl, rfl, ⟨Below.refl _ _⟩⟩
  case round =>
    obtain ⟨j, hjf, rfl, HB⟩ := hrel
    have HJF := Aside0.mk hjf
    by_cases hlt : j < 2
    · have e1 : decide ((j : Int) < 2) = true := decide_eq_true (by omega)
      have e2 : decide (j < 2) = true := decide_eq_true hlt
      have HLT := Aside0.mk hlt
      have HRX := Aside0.mk (read_alike HRM.out (j : Int))
      have HW := Aside0.mk (show wrap64 ((j : Int) + 1) = ((j + 1 : Nat) : Int) by unfold wrap64; omega)
      clear hlt hjf
      go_wp2_with (fail)
      refine (Read_calls _ g s (j : Int) _ (HD.out.below HB.out) HOK.out.1).mono ?_
      rintro e w2 ⟨v, rfl, hR, hB⟩
      obtain ⟨A, c, rfl⟩ := Kd.R_slice hR
      have HC2 := Aside0.mk (Kd.R_reads' hR)
      have HB2 := Aside0.mk (below_step HB.out hB)
      clear hR hB
      go_wp2_with (fail)
      refine (RRead_calls _ h s (j : Int) _ (HX.out.below HB2.out) HOK.out.1 HBY.out).mono ?_
      rw [HRX.out]
      rintro e w3 ⟨A3, c3, rfl, hc3, hC3, hB⟩
      have HC3 := Aside0.mk (And.intro hc3 hC3)
      have HC2' := Aside0.mk (Kd.C_below HC2.out.2.2 hB)
      have HB3 := Aside0.mk (below_step HB2.out hB)
      obtain ⟨⟨bs, er⟩, hq⟩ : ∃ q, readP s (j : Int) = q := ⟨_, rfl⟩
      rw [hq] at HC2 HC3 HC2' ⊢
      have de : (er != er) = false := by simp
      clear hc3 hC3 hB hq HRX
      go_wp2_with (fail)
      refine (bytes_same A c A3 c3 bs _ HC2'.out HC2.out.2.1 HC3.out.2 HC3.out.1).mono ?_
      rintro e w4 ⟨rfl, ⟨n4, rfl⟩⟩
      go_wp2_with (fail)
      rw [HW.out]
      go_roundg (gk - 1)
      case rel => exact ⟨j + 1, by have := HJF.out; have := HLT.out; omega, rfl, ⟨pw_below_drewN HB3.out n4⟩⟩
      case measure => have := HJF.out; have := HLT.out; omega
    · obtain rfl : j = 2 := by omega
      have e1 : decide (((2 : Nat) : Int) < 2) = false := by decide
      clear hlt hjf
      go_wp2_with (fail)
      go_ret
      exact ⟨rfl, HB.out⟩
end Go.Proofs.Ytehjbhnlbjbhfaa.Rt
-- RtG
namespace Go.Proofs.Ytehjbhnlbjbhfaa.Rt
open Go Go.RowKit Go.Proofs.YtehjbhnlbjbhfaaW.PrintWords Go.Proofs.YtehjbhnlbjbhfaaW.PrintLast Go.Proofs.YtehjbhnlbjbhfaaW.PrintMore Go.Proofs.Ytehjbhnlbjbhfaa.Wire Go.Proofs.Ytehjbhnlbjbhfaa.Wk Go.Proofs.Ytehjbhnlbjbhfaa.Dk Go.Proofs.Ytehjbhnlbjbhfaa.Tp Go.Proofs.Ytehjbhnlbjbhfaa.Rd
set_option linter.unusedVariables false
theorem saveP_room (t : TS) (s : DS) (base : List Int) (l : List (List Int)) : (saveP t s base l).2.1.room = s.room := by
  unfold saveP
  split
  · rfl
  · split
    · rfl
    · split
      · rfl
      · split
        · rfl
        · unfold saveW
          simp only
          split
          · exact clear_room _ _
          · split
            · exact (append_room _ _ _).trans (clear_room _ _)
            · split
              · exact (sync_room _ _).trans ((append_room _ _ _).trans (clear_room _ _))
              · exact (sync_room _ _).trans ((append_room _ _ _).trans (clear_room _ _))
theorem putP_room (t : TS) (s : DS) (d : List Int) : (putP t s d).2.1.room = s.room := by
  unfold putP
  split
  · rfl
  · simp only
    split <;> exact append_room _ _ _
theorem syncT_room (t : TS) (s : DS) : (syncT t s).2.1.room = s.room := by
  unfold syncT
  simp only
  split <;> exact sync_room _ _
theorem openT_room (s : DS) : (openT s).2.1.room = s.room := by
  unfold openT
  split
  · rfl
  · simp only
    split
    · split <;> exact saveP_room _ _ _ _
    · rfl
end Go.Proofs.Ytehjbhnlbjbhfaa.Rt
-- RtH
namespace Go.Proofs.Ytehjbhnlbjbhfaa.Rt
open Go Go.RowKit Go.Proofs.YtehjbhnlbjbhfaaW.PrintWords Go.Proofs.YtehjbhnlbjbhfaaW.PrintLast Go.Proofs.YtehjbhnlbjbhfaaW.PrintMore Go.Proofs.Ytehjbhnlbjbhfaa.Wire Go.Proofs.Ytehjbhnlbjbhfaa.Wk Go.Proofs.Ytehjbhnlbjbhfaa.Dk Go.Proofs.Ytehjbhnlbjbhfaa.Tp Go.Proofs.Ytehjbhnlbjbhfaa.Rd
open Go.Proofs.Ytehjbhnlbjbhfaa.PTapePlays
set_option linter.unusedVariables false
set_option linter.unusedSimpArgs false
theorem texts_l0 (ls : List (List Int)) (hl : ls.length < 1000000000) : ∀ (d j : Nat), j + d = ls.length → towlinelaw06_texts.l0 (d + 1) ((ls.take j).map strOfNums) ls (ls.length : Int) (j : Int) = some (ls.map strOfNums) := by
  intro d
  induction d with
  | zero =>
    intro j hj
    obtain rfl : j = ls.length := by omega
    simp only [towlinelaw06_texts.l0]
    rw [if_neg (by omega), List.take_length]
  | succ d ih =>
    intro j hj
    have hlt : j < ls.length := by omega
    rw [towlinelaw06_texts.l0, if_pos (by omega), if_pos (by omega), if_pos (by omega), if_pos (by rw [List.length_map, List.length_take]; omega), show wrap64 ((j : Int) + 1) = ((j + 1 : Nat) : Int) by unfold wrap64; omega]
    have : (ls.take j).map strOfNums ++ [strOfNums (rd_L1 ls (j : Int))] = (ls.take (j + 1)).map strOfNums := by
      rw [List.take_add_one, List.map_append, List.getElem?_eq_getElem hlt]
      unfold rd_L1
      rw [Int.toNat_natCast, List.getD_eq_getElem?_getD, List.getElem?_eq_getElem hlt]
      rfl
    rw [this]
    exact ih (j + 1) (by omega)
theorem texts_calls (A0 : Option Addr) (c0 : Nat) (ls : List (List Int)) (w : World) (hr0 : Kd.C KdB w A0 ls.length ls) (hc0 : ls.length ≤ c0) (hl : ls.length < 1000000000) :
    Calls Try.prog 43 #[.slice A0 ls.length c0] w fun e w' => ∃ v, e = .returned v ∧ Kd.R Kd.string 9 w' w.heap.size (fun _ => True) v (ls.map strOfNums) ∧ Below w.heap.size w w' :=
  towlinelaw06_texts.calls (ls.length + 1) A0 c0 ls (ls.map strOfNums) w hr0 hc0 (texts_l0 ls hl ls.length 0 (by omega))
structure Zok (z : TS) (n : Nat) : Prop where
  file : z.file ≤ 1
  gen : 0 ≤ z.r.gen ∧ z.r.gen ≤ 1099511627776
  bnd : Bnd z n
theorem Zok.put {z : TS} {n : Nat} (h : Zok z n) (s : DS) (d : List Int) : Zok (putP z s d).1 (n + 1) := by
  have hb := h.bnd.put s d
  unfold putP at *
  split at hb
  · rename_i c; rw [if_pos c]; exact ⟨h.file, h.gen, hb⟩
  · rename_i c
    rw [if_neg c]
    simp only at *
    split at hb
    · rename_i c2; rw [if_pos c2]; exact ⟨h.file, h.gen, hb⟩
    · rename_i c2; rw [if_neg c2]; exact ⟨h.file, h.gen, hb⟩
theorem Zok.sync {z : TS} {n : Nat} (h : Zok z n) (s : DS) : Zok (syncT z s).1 n := by
  unfold syncT
  simp only
  split
  · exact h
  · exact ⟨h.file, h.gen, ⟨h.bnd.base, h.bnd.many, h.bnd.l⟩⟩
theorem saveP_fst (t : TS) (s : DS) (base : List Int) (l : List (List Int)) : (saveP t s base l).1 = t ∨ (saveP t s base l).2.2 = 0 := by
  unfold saveP
  split
  · exact .inl rfl
  · split
    · exact .inl rfl
    · split
      · exact .inl rfl
      · split
        · exact .inl rfl
        · unfold saveW
          simp only
          split
          · exact .inl rfl
          · split
            · exact .inl rfl
            · split
              · exact .inl rfl
              · exact .inr rfl
theorem Zok.save {z : TS} {n : Nat} (h : Zok z n) (s : DS) (base : List Int) (l : List (List Int)) (hn : l.length ≤ n) : Zok (saveP z s base l).1 n := by
  rcases saveP_fst z s base l with e | e
  · rw [e]; exact h
  · obtain ⟨h1, h2, h3, h4⟩ := saveP_reel e
    rw [h1]
    refine ⟨by show 1 - z.file ≤ 1; omega, ⟨by show 0 ≤ z.r.gen + 1; have := h.gen; omega, by show z.r.gen + 1 ≤ _; omega⟩, ⟨h3, hn, h4⟩⟩
theorem Zok.mono {z : TS} {n m : Nat} (h : Zok z n) (hm : n ≤ m) : Zok z m := ⟨h.file, h.gen, ⟨h.bnd.base, Nat.le_trans h.bnd.many hm, h.bnd.l⟩⟩
theorem openT_zok {s s' : DS} {x : TS} {e : Int} (hb : BsD s) (hok : Ok s) (h : openT s = (some x, s', e)) : Zok x 4194304 := by
  obtain ⟨_, h2, h3, _, h5, h6, _⟩ := openT_some hb hok h
  exact ⟨h3, ⟨by omega, h5⟩, h2⟩
theorem Zok.saveOk {z : TS} {n : Nat} (h : Zok z n) {base : List Int} {ls : List (List Int)} (hb : Bs base) (hl : ∀ d ∈ ls, Bs d) (hbl : base.length < 1000000000) (h1 : 4 * ls.length ≤ 16384) (h2 : ∀ d ∈ ls, d.length ≤ 16384) : SaveOk z base ls :=
  ⟨by have := h.gen; omega, h.file, hb, hl, hbl, by omega, flat_small h1 h2⟩
theorem crash_room (s : DS) (keep : List Int) : (crashP s keep).1.room = s.room := by
  unfold crashP; split <;> rfl
theorem arm_room (s : DS) (n : Int) (keep : List Int) : (armP s n keep).1.room = s.room := by
  unfold armP
  split
  · rfl
  · split <;> rfl
def PT (G : Nat → Prop) (B : Nat) (W : World) (d y : Nat) (p q : Value) : Option TS → Prop
  | none => p = .pointer none ∧ q = .pointer none
  | some z => ∃ t u, p = .pointer (some ⟨t, 0, none⟩) ∧ q = .pointer (some ⟨u, 0, none⟩) ∧ IsT G W t d z ∧ IsY G W u y z ∧ t ≠ y ∧ u ≠ d ∧ t ≠ u ∧ t < B ∧ u < B
structure PS (G : Nat → Prop) (B : Nat) (W0 W : World) (d y : Nat) (p q : Value) (o : Option TS) (s : DS) : Prop where
  dd : IsD G W d s
  xx : IsX G W y s
  w : Below W0.heap.size W0 W
  gw : ∀ k, G k → W0.heap.size ≤ k
  db : d < B
  yb : y < B
  t : PT G B W d y p q o
theorem PT.ws {G P : Nat → Prop} {B : Nat} {W W' : World} {d y : Nat} {p q : Value} {o : Option TS} (h : PT G B W d y p q o) (hw : Ws P W W') (hg : ∀ b, P b → G b) (hne : ∀ t, t < B → ¬ P t) : PT G B W' d y p q o := by
  cases o with
  | none => exact h
  | some z =>
    obtain ⟨t, u, h1, h2, h3, h4, h5, h6, h7, h8, h9⟩ := h
    exact ⟨t, u, h1, h2, h3.ws hw hg (hne t h8), h4.ws hw hg (hne u h9), h5, h6, h7, h8, h9⟩
theorem PS.ws {G P : Nat → Prop} {B : Nat} {W0 W W' : World} {d y : Nat} {p q : Value} {o : Option TS} {s : DS} (h : PS G B W0 W d y p q o s) (hw : Ws P W W') (hg : ∀ b, P b → G b) (hne : ∀ t, t < B → ¬ P t) : PS G B W0 W' d y p q o s :=
  ⟨IsD.ws h.dd hw hg (hne d h.db), IsX.ws h.xx hw hg (hne y h.yb), hw.below h.w (fun b hb => h.gw b (hg b hb)), h.gw, h.db, h.yb, h.t.ws hw hg hne⟩
theorem PS.below {G : Nat → Prop} {B : Nat} {W0 W W' : World} {d y : Nat} {p q : Value} {o : Option TS} {s : DS} (h : PS G B W0 W d y p q o s) (hw : Below W.heap.size W W') : PS G B W0 W' d y p q o s :=
  h.ws (P := fun _ => False) (Ws.of_below hw) (fun _ h => h.elim) (fun _ _ h => h)
theorem PS.put {G : Nat → Prop} {B : Nat} {W0 W : World} {d y : Nat} {p q : Value} {o : Option TS} {s : DS} (h : PS G B W0 W d y p q o s) {g : Nat} (hg : G g) (hb : B ≤ g) (j : Nat) (u : Value) : PS G B W0 (W.setCell ⟨g, j, none⟩ u) d y p q o s :=
  h.ws (P := fun b => b = g) (Ws.of_set W (P := fun b => b = g) rfl j u) (fun b e => e ▸ hg) (fun t ht e => by omega)
theorem PT.grow {G G' : Nat → Prop} {B : Nat} {W : World} {d y : Nat} {p q : Value} {o : Option TS} (h : PT G B W d y p q o) (hs : ∀ k, k < W.heap.size → G' k → G k) (hi : ∀ k, G k → G' k) : PT G' B W d y p q o := by
  cases o with
  | none => exact h
  | some z =>
    obtain ⟨t, u, h1, h2, h3, h4, h5, h6, h7, h8, h9⟩ := h
    exact ⟨t, u, h1, h2, h3.grow (hi _ h3.gt) hs, h4.grow (hi _ h4.gt) hs, h5, h6, h7, h8, h9⟩
theorem PS.moreN {G : Nat → Prop} {B : Nat} {W0 W W' : World} {d y : Nat} {p q : Value} {o : Option TS} {s : DS} (h : PS G B W0 W d y p q o s) (hw : Below W.heap.size W W') : PS (fun k => G k ∨ (W.heap.size ≤ k ∧ k < W'.heap.size)) B W0 W' d y p q o s := by
  have hb := h.below hw
  refine ⟨IsD.moreN h.dd hw, IsX.moreN h.xx hw, hb.w, fun k hk => hk.elim (h.gw k) (fun e => Nat.le_trans h.w.size e.1), h.db, h.yb, ?_⟩
  have h1 := h.t.grow (G' := fun k => G k ∨ (W.heap.size ≤ k ∧ k < W'.heap.size)) (fun k hk hG => hG.elim id (fun e => by omega)) (fun k => .inl)
  exact h1.ws (P := fun _ => False) (Ws.of_below hw) (fun _ h => h.elim) (fun _ _ h => h)
theorem PS.bound {G : Nat → Prop} {B B' : Nat} {W0 W : World} {d y : Nat} {p q : Value} {o : Option TS} {s : DS} (h : PS G B W0 W d y p q o s) (hb : B ≤ B') : PS G B' W0 W d y p q o s := by
  refine ⟨h.dd, h.xx, h.w, h.gw, Nat.lt_of_lt_of_le h.db hb, Nat.lt_of_lt_of_le h.yb hb, ?_⟩
  cases o with
  | none => exact h.t
  | some z =>
    obtain ⟨t, u, h1, h2, h3, h4, h5, h6, h7, h8, h9⟩ := h.t
    exact ⟨t, u, h1, h2, h3, h4, h5, h6, h7, Nat.lt_of_lt_of_le h8 hb, Nat.lt_of_lt_of_le h9 hb⟩
theorem PS.dy {G : Nat → Prop} {B : Nat} {W0 W : World} {d y : Nat} {p q : Value} {o : Option TS} {s : DS} (h : PS G B W0 W d y p q o s) : d ≠ y := by
  intro e
  subst e
  obtain ⟨_, _, dv, hA, _⟩ := h.dd
  obtain ⟨_, _, kv, hX, _⟩ := h.xx
  have := hA.2
  rw [hX.2] at this
  injection this with this
  injection this with _ h2 _
  exact absurd h2 (by decide)
theorem PS.disks {G : Nat → Prop} {B : Nat} {W0 W W1 W2 : World} {d y : Nat} {p q : Value} {o : Option TS} {s s' : DS} (h : PS G B W0 W d y p q o s) (h1 : IsD G W1 d s') (w1 : Wr d W W1) (h2 : IsX G W2 y s') (w2 : Wr y W1 W2) : PS G B W0 W2 d y p q o s' := by
  have hdy := h.dy
  refine ⟨h1.other w2 h.xx.gg hdy, h2, (w2.below (w1.below h.w (h.gw d h.dd.gg)) (h.gw y h.xx.gg)), h.gw, h.db, h.yb, ?_⟩
  cases o with
  | none => exact h.t
  | some z =>
    obtain ⟨t, u, e1, e2, h3, h4, h5, h6, h7, h8, h9⟩ := h.t
    have n1 : t ≠ d := h3.ne h.dd
    have n2 : u ≠ y := h4.ne h.xx
    refine ⟨t, u, e1, e2, ?_, ?_, h5, h6, h7, h8, h9⟩
    · exact (h3.ws (P := fun b => b = d) (Ws.of_wr w1 rfl) (fun b e => e ▸ h.dd.gg) (fun e => n1 e)).ws (P := fun b => b = y) (Ws.of_wr w2 rfl) (fun b e => e ▸ h.xx.gg) (fun e => h5 e)
    · exact (h4.ws (P := fun b => b = d) (Ws.of_wr w1 rfl) (fun b e => e ▸ h.dd.gg) (fun e => h6 e)).ws (P := fun b => b = y) (Ws.of_wr w2 rfl) (fun b e => e ▸ h.xx.gg) (fun e => n2 e)
theorem PS.tt {G : Nat → Prop} {B : Nat} {W0 W : World} {d y t u : Nat} {z : TS} {s : DS} (h : PS G B W0 W d y (.pointer (some ⟨t, 0, none⟩)) (.pointer (some ⟨u, 0, none⟩)) (some z) s) : IsT G W t d z ∧ IsY G W u y z ∧ t ≠ y ∧ u ≠ d ∧ t ≠ u ∧ t < B ∧ u < B := by
  obtain ⟨t', u', e1, e2, r⟩ := h.t
  injection e1 with e1; injection e1 with e1; injection e1 with e1
  injection e2 with e2; injection e2 with e2; injection e2 with e2
  subst e1 e2
  exact r
theorem PS.mid {G : Nat → Prop} {B : Nat} {W0 W W1 : World} {d y t u : Nat} {z : TS} {s : DS} (h : PS G B W0 W d y (.pointer (some ⟨t, 0, none⟩)) (.pointer (some ⟨u, 0, none⟩)) (some z) s) (hW : Ws (TG t d) W W1) : IsY G W1 u y z ∧ IsX G W1 y s := by
  obtain ⟨h3, h4, h5, h6, h7, h8, h9⟩ := h.tt
  have hs : ∀ b, TG t d b → G b := fun b hb => hb.elim (fun e => e ▸ h3.gt) (fun e => e ▸ h.dd.gg)
  have hdy := h.dy
  exact ⟨h4.ws hW hs (fun e => e.elim (fun e => h7 e.symm) (fun e => h6 e)), IsX.ws h.xx hW hs (fun e => e.elim (fun e => h5 e.symm) (fun e => hdy e.symm))⟩
theorem PS.acts {G : Nat → Prop} {B : Nat} {W0 W W1 W2 : World} {d y t u : Nat} {z z1 : TS} {s s1 : DS} (h : PS G B W0 W d y (.pointer (some ⟨t, 0, none⟩)) (.pointer (some ⟨u, 0, none⟩)) (some z) s) (hT : IsT G W1 t d z1) (hD : IsD G W1 d s1) (hW : Ws (TG t d) W W1) (hY : IsY G W2 u y z1) (hX : IsX G W2 y s1) (hW2 : Ws (TG u y) W1 W2) : PS G B W0 W2 d y (.pointer (some ⟨t, 0, none⟩)) (.pointer (some ⟨u, 0, none⟩)) (some z1) s1 := by
  obtain ⟨h3, h4, h5, h6, h7, h8, h9⟩ := h.tt
  have hdy := h.dy
  have hs : ∀ b, TG t d b → G b := fun b hb => hb.elim (fun e => e ▸ h3.gt) (fun e => e ▸ h.dd.gg)
  have hs2 : ∀ b, TG u y b → G b := fun b hb => hb.elim (fun e => e ▸ h4.gt) (fun e => e ▸ h.xx.gg)
  refine ⟨IsD.ws hD hW2 hs2 (fun e => e.elim (fun e => h6 e.symm) (fun e => hdy e)), hX, hW2.below (hW.below h.w (fun b hb => h.gw b (hs b hb))) (fun b hb => h.gw b (hs2 b hb)), h.gw, h.db, h.yb, t, u, rfl, rfl, hT.ws hW2 hs2 (fun e => e.elim (fun e => h7 e) (fun e => h5 e)), hY, h5, h6, h7, h8, h9⟩
theorem row_keep {W W' : World} {k M : Nat} {v : Value} {ys : List Int} {P : Nat → Prop} (h : Kd.R (Kd.int .u8) 5 W k (fun g => k ≤ g ∧ g < M) v ys) (hw : Ws P W W') (hp : ∀ g, P g → g < k) : Kd.R (Kd.int .u8) 5 W' k (fun g => k ≤ g ∧ g < M) v ys :=
  Kd.R_step h (fun g hg hlt => hw.block g hlt (fun e => by have := hp g e; omega))
theorem rows_keep {W W' : World} {M : Nat} {ok : Nat → Prop} {v : Value} {ys : List (List Int)} {P : Nat → Prop} (h : Kd.R KdB 32 W M ok v ys) (hok : ∀ g, ok g → M ≤ g) (hw : Ws P W W') (hp : ∀ g, P g → g < M) : Kd.R KdB 32 W' M ok v ys :=
  Kd.R_step h (fun g hg hlt => hw.block g hlt (fun e => by have := hp g e; have := hok g hg; omega))
theorem row_far {W W' : World} {k M : Nat} {v : Value} {ys : List Int} {P : Nat → Prop} (h : Kd.R (Kd.int .u8) 5 W k (fun g => k ≤ g ∧ g < M) v ys) (hw : Ws P W W') (hp : ∀ g, P g → g < k ∨ M ≤ g) : Kd.R (Kd.int .u8) 5 W' k (fun g => k ≤ g ∧ g < M) v ys :=
  Kd.R_step h (fun g hg hlt => hw.block g hlt (fun e => by have := hp g e; omega))
theorem row_rw {W : World} {k M : Nat} {v : Value} {ys : List Int} {P : Nat → Prop} (h : Kd.R (Kd.int .u8) 5 W k (fun g => k ≤ g ∧ g < M) v ys) (hp : ∀ g, P g → g < k) : Rw P .u8 W v ys :=
  show Kd.V (Kd.int .u8) 5 W 0 (fun b => ¬ P b) v ys from Kd.R_V (Kd.R_mono h (fun g hg e => by have := hp g e; omega))
def OT (G : Nat → Prop) (W : World) (t d : Nat) (p : Value) : Option TS → Prop
  | none => p = .pointer none
  | some x => p = .pointer (some ⟨t, 0, none⟩) ∧ IsT G W t d x
def OY (G : Nat → Prop) (W : World) (t d : Nat) (p : Value) : Option TS → Prop
  | none => p = .pointer none
  | some x => p = .pointer (some ⟨t, 0, none⟩) ∧ IsY G W t d x
theorem PS.openA {G : Nat → Prop} {B : Nat} {W0 W W1 : World} {d y : Nat} {p q : Value} {o : Option TS} {s s1 : DS} (h : PS G B W0 W d y p q o s) (hD : IsD (fun k => G k ∨ k = W.heap.size) W1 d s1) (hW : Ws (fun b => b = d) W W1) : IsX (fun k => G k ∨ k = W.heap.size) W1 y s :=
  IsX.wsmore h.xx hW (fun k e => e ▸ h.dd.gg) (fun e => h.dy e.symm) (Nat.le_refl _) (hD.lt _ (.inr rfl))
theorem PS.openB {G : Nat → Prop} {B : Nat} {W0 W W1 W2 : World} {d y : Nat} {p q p1 q1 : Value} {o o1 : Option TS} {s s1 : DS} (h : PS G B W0 W d y p q o s) (hD : IsD (fun k => G k ∨ k = W.heap.size) W1 d s1) (hW : Ws (fun b => b = d) W W1)
    (hp : OT (fun k => G k ∨ k = W.heap.size) W1 W.heap.size d p1 o1)
    (hX : IsX (fun k => (G k ∨ k = W.heap.size) ∨ k = W1.heap.size) W2 y s1) (hW2 : Ws (fun b => b = y) W1 W2)
    (hq : OY (fun k => (G k ∨ k = W.heap.size) ∨ k = W1.heap.size) W2 W1.heap.size y q1 o1) :
    ∃ G', PS G' W2.heap.size W0 W2 d y p1 q1 o1 s1 := by
  have hdy := h.dy
  have hd := h.dd.lt d h.dd.gg
  have hy := h.xx.ltg
  have hw1 := hW.below h.w (fun k e => h.gw k (e ▸ h.dd.gg))
  have hw2 := hW2.below hw1 (fun k e => h.gw k (e ▸ h.xx.gg))
  have ht := hD.lt _ (.inr rfl)
  have hu := hX.lt _ (.inr rfl)
  refine ⟨fun k => (G k ∨ k = W.heap.size) ∨ k = W1.heap.size, ?_, hX, hw2, ?_, Nat.lt_of_lt_of_le hd (Nat.le_trans hW.size hW2.size), Nat.lt_of_lt_of_le hy (Nat.le_trans hW.size hW2.size), ?_⟩
  · exact IsD.wsmore hD hW2 (fun k e => .inl (e ▸ h.xx.gg)) (fun e => hdy e) (Nat.le_refl _) hu
  · rintro k ((hk | hk) | hk)
    · exact h.gw k hk
    · have := h.w.size; omega
    · have := hw1.size; omega
  · cases o1 with
    | none => exact ⟨hp, hq⟩
    | some z =>
      obtain ⟨rfl, hT⟩ := hp
      obtain ⟨rfl, hY⟩ := hq
      exact ⟨W.heap.size, W1.heap.size, rfl, rfl, hT.wsmore hW2 (fun k e => .inl (e ▸ h.xx.gg)) (fun e => by omega) (Nat.le_refl _), hY, by omega, by have := hW.size; omega, by omega, by omega, hu⟩
theorem tells_any {G : Nat → Prop} {B : Nat} {W0 W : World} {d y : Nat} {p q : Value} {o : Option TS} {s : DS} {n : Nat} (h : PS G B W0 W d y p q o s) (hz : ∀ z, o = some z → Bnd z n) (hn : n ≤ 100000000 := by omega) :
    Calls Try.prog 35 #[p, q] W fun e w' => e = .returned (.bool true) ∧ Below W.heap.size W w' := by
  cases o with
  | none =>
    obtain ⟨rfl, rfl⟩ := h.t
    exact (tells_nil W).mono (fun e w' h => ⟨h.1, h.2.below⟩)
  | some z =>
    obtain ⟨t, u, rfl, rfl, h3, h4, _⟩ := h.t
    have hb := hz z rfl
    exact tells_calls G G t d u y z W h3 h4 ⟨hb.base, by have := hb.many; omega, hb.l⟩
theorem IsX.on {G : Nat → Prop} {W : World} {y : Nat} {s : DS} (h : IsX G W y s) : IsX G (W.setCell ⟨y, 25, none⟩ (.bool false)) y { s with off := false } := by
  obtain ⟨h1, h2, kv, hA, hR⟩ := h
  exact ⟨fun b hb => by simp; exact h1 b hb, h2, kv, hA.set25 false, hR.wr ((Wr.refl y W).set 25 _) h2⟩
end Go.Proofs.Ytehjbhnlbjbhfaa.Rt
-- RtI
namespace Go.Proofs.Ytehjbhnlbjbhfaa.Rt
open Go Go.RowKit Go.Proofs.YtehjbhnlbjbhfaaW.PrintWords Go.Proofs.YtehjbhnlbjbhfaaW.PrintLast Go.Proofs.YtehjbhnlbjbhfaaW.PrintMore Go.Proofs.Ytehjbhnlbjbhfaa.Wire Go.Proofs.Ytehjbhnlbjbhfaa.Wk Go.Proofs.Ytehjbhnlbjbhfaa.Dk Go.Proofs.Ytehjbhnlbjbhfaa.Tp Go.Proofs.Ytehjbhnlbjbhfaa.Rd
set_option linter.unusedVariables false
def BCell (W : World) (g n : Nat) : Prop := ∃ cells : Array Value, W.heap[g]? = some (.cells cells 5 (0, 0)) ∧ ∀ j, j < n → ∃ x, cells[j]? = some (.int .u8 x)
theorem BCell.put {W : World} {g n : Nat} (h : BCell W g n) (g' j : Nat) (y : Int) : BCell (W.setCell ⟨g', j, none⟩ (.int .u8 y)) g n := by
  obtain ⟨cells, hc, hx⟩ := h
  by_cases e : g = g'
  · subst e
    refine ⟨cells.setIfInBounds j (.int .u8 y), blk_set hc j _, fun i hi => ?_⟩
    by_cases e2 : j = i
    · subst e2
      obtain ⟨x, hx⟩ := hx j hi
      have hlt := (Array.getElem?_eq_some_iff.1 hx).1
      exact ⟨y, by rw [Array.getElem?_setIfInBounds]; simp [hlt]⟩
    · obtain ⟨x, hx⟩ := hx i hi
      exact ⟨x, by rw [Array.getElem?_setIfInBounds, if_neg e2]; exact hx⟩
  · exact ⟨cells, blk_far hc (p := ⟨g', j, none⟩) e _, hx⟩
theorem BCell.cell {W : World} {g n : Nat} (h : BCell W g n) {j : Nat} (hj : j < n) : (∃ x, W.cell? ⟨g, j, none⟩ = some (.int .u8 x)) ∧ W.frozen? ⟨g, j, none⟩ = false := by
  obtain ⟨cells, hc, hx⟩ := h
  obtain ⟨x, hx⟩ := hx j hj
  exact ⟨⟨x, (blk_cell hc j).trans hx⟩, blk_frozen hc j⟩
def GB (W : World) (lo hi og n : Nat) : Prop := ∃ cells : Array Value, W.heap[og]? = some (.cells cells 32 (0, 0)) ∧ ∀ i, i < n → ∃ A m c, cells[i]? = some (.slice A m c) ∧ m ≤ 16384 ∧ (0 < m → ∃ g, A = some ⟨g, 0, none⟩ ∧ lo ≤ g ∧ g < hi ∧ BCell W g m)
theorem GB.put {W : World} {lo hi og n : Nat} (h : GB W lo hi og n) {g' m' : Nat} (hg : BCell W g' m') (j : Nat) (y : Int) : GB (W.setCell ⟨g', j, none⟩ (.int .u8 y)) lo hi og n := by
  obtain ⟨cells, hc, hx⟩ := h
  have hne : og ≠ g' := by
    obtain ⟨c2, hc2, _⟩ := hg
    exact other_block hc hc2 (by decide)
  refine ⟨cells, blk_far hc (p := ⟨g', j, none⟩) hne _, fun i hi => ?_⟩
  obtain ⟨A, m, c, h1, h2, h3⟩ := hx i hi
  refine ⟨A, m, c, h1, h2, fun hm => ?_⟩
  obtain ⟨g, e1, e2, e3, e4⟩ := h3 hm
  exact ⟨g, e1, e2, e3, e4.put g' j y⟩
theorem BCell.of_R {W : World} {base : Nat} {ok : Nat → Prop} {A : Option Addr} {c : Nat} {ys : List Int} (h : (Kd.int .u8).R 5 W base ok (.slice A ys.length c) ys) (hn : 0 < ys.length) : ∃ g, A = some ⟨g, 0, none⟩ ∧ base ≤ g ∧ g < W.heap.size ∧ ok g ∧ BCell W g ys.length := by
  obtain ⟨g, cap, hv, hbg, hg, cells, hc⟩ := Kd.R_form h hn
  injection hv with h1 h2 h3
  subst h1 h3
  refine ⟨g, rfl, hbg, hg, h.1 g rfl, cells, hc, fun j hj => ?_⟩
  obtain ⟨ad, e0, hx⟩ := Kd.at_int (Kd.R_reads' h).2.2 (j : Int) (by omega) (by omega)
  cases e0
  rw [Int.toNat_natCast, add_at, Nat.zero_add, blk_cell hc j] at hx
  exact ⟨_, hx⟩
theorem GB.of_R {W : World} {base : Nat} {ok : Nat → Prop} {A : Option Addr} {c hi : Nat} {ls : List (List Int)} (h : KdB.R 32 W base ok (.slice A ls.length c) ls) (hn : 0 < ls.length) (hl : ∀ d ∈ ls, d.length ≤ 16384) (hhi : ∀ g, ok g → g < hi) : ∃ og, A = some ⟨og, 0, none⟩ ∧ base ≤ og ∧ og < W.heap.size ∧ GB W base hi og ls.length := by
  have h' := h
  obtain ⟨h0, inner, ho, hr⟩ := h
  obtain ⟨hil, ho⟩ := ho
  rcases ho with ⟨_, e⟩ | ⟨og, cap, cur, hv, hbg, hh, hnc, _, hcs, htk⟩
  · omega
  · injection hv with h1 h2 h3
    subst h1 h3
    refine ⟨og, rfl, hbg, blk_lt hh, cur, hh, fun i hi2 => ?_⟩
    have hget : ls[i]? = some ls[i] := List.getElem?_eq_getElem hi2
    obtain ⟨v, hv, hR⟩ := hr.2 i ls[i] hget
    obtain ⟨A2, c2, rfl⟩ := Kd.R_slice hR
    have hcur : cur[i]? = some (.slice A2 ls[i].length c2) := by
      have h3 : (inner.drop (i * 1)).take 1 = [Value.slice A2 ls[i].length c2] := hv
      have h4 : inner[i]? = some (.slice A2 ls[i].length c2) := by
        have := congrArg (fun l => l[0]?) h3
        simpa using this
      rw [← htk] at h4
      rw [List.getElem?_take] at h4
      split at h4
      · simpa using h4
      · exact absurd h4 (by simp)
    refine ⟨A2, ls[i].length, c2, hcur, hl _ (List.getElem_mem hi2), fun hm => ?_⟩
    obtain ⟨g, e1, e2, e3, e4, e5⟩ := BCell.of_R hR hm
    exact ⟨g, e1, e2, hhi g e4.1, e5⟩
end Go.Proofs.Ytehjbhnlbjbhfaa.Rt
-- WkTapePlays
namespace Go.Proofs.Ytehjbhnlbjbhfaa.Wk
open Go Go.RowKit Go.Proofs.YtehjbhnlbjbhfaaW.PrintWords Go.Proofs.YtehjbhnlbjbhfaaW.PrintLast Go.Proofs.YtehjbhnlbjbhfaaW.PrintMore Go.Proofs.Ytehjbhnlbjbhfaa.Wire Go.Proofs.Ytehjbhnlbjbhfaa.Dk Go.Proofs.Ytehjbhnlbjbhfaa.Tp Go.Proofs.Ytehjbhnlbjbhfaa.Rd Go.Proofs.Ytehjbhnlbjbhfaa.Rt
open Go.Proofs.Ytehjbhnlbjbhfaa.PTapePlays (k79 rd_T79 at_T79)
set_option linter.unusedVariables false
set_option linter.unusedSimpArgs false
set_option maxHeartbeats 32000000 in
set_option maxRecDepth 100000 in
theorem TapePlays {W : World} (a0 : Int) (w0 : (Lit.int .i64 a0).wf = true)
    (A1 : Option Addr) (cap1 : Nat) (l1 : List TD) (hl1 : l1.length ≤ cap1) (hC1 : k79.C W A1 l1.length l1) (hG1 : ∀ y ∈ l1, GTD y) :
    Calls Try.prog 9 #[.int .i64 a0, .slice A1 l1.length cap1] W fun e w' => e = .returned (.bool true) ∧ Below W.heap.size W w' := by
  obtain ⟨r, hr, hsh⟩ := tshort1 l1 A1 cap1 W hC1 hl1
  have HRS := Aside0.mk hr
  have HSH := Aside0.mk hsh
  have HC1 := Aside0.mk (And.intro hl1 hC1)
  have HG1 := Aside0.mk hG1
  clear hl1 hC1 hG1 hr hsh w0
  cases r with
  | false =>
    go_enter Try.func9, Try.ntmps9
    go_wp2_with (fail)
    refine HSH.out.mono ?_
    rintro e w1 ⟨rfl, hB⟩
    have HB := Aside0.mk hB
    clear hB
    go_wp2_with (fail)
    refine (Tp.awake_calls _).mono ?_
    rintro e w2 ⟨rfl, hB2⟩
    have HB2 := Aside0.mk (below_step HB.out hB2)
    clear hB2
    go_wp2_with (fail)
    go_ret
    exact ⟨rfl, HB2.out⟩
  | true =>
    have HSM := Aside0.mk (HRS.out rfl)
    clear HRS
    go_enter Try.func9, Try.ntmps9
    go_wp2_with (fail)
    refine HSH.out.mono ?_
    rintro e w1 ⟨rfl, hB⟩
    have HB := Aside0.mk hB
    clear hB HSH
    go_wp2_with (fail)
    obtain ⟨rm, hrm, hr1, hr2⟩ : ∃ rm : Int, wrap64 (1 + wrap64 ((IntKind.u64.wrap a0).tmod 1048576)) = rm ∧ 1 ≤ rm ∧ rm ≤ 1048576 := by
      refine ⟨_, rfl, ?_, ?_⟩
      · rw [u64w, Int.tmod_eq_emod_of_nonneg (by omega)]; unfold wrap64; omega
      · rw [u64w, Int.tmod_eq_emod_of_nonneg (by omega)]; unfold wrap64; omega
    rw [hrm]
    have HRMR := Aside0.mk (And.intro hr1 hr2)
    clear hrm hr1 hr2
    refine (New_calls rm _ HRMR.out.1 (by have := HRMR.out; omega)).mono ?_
    rintro e w2 ⟨b, rfl, hb1, hb2, hB1, hI⟩
    have HI1 := Aside0.mk hI
    have HB1 := Aside0.mk (below_step HB.out hB1)
    have HL1 := Aside0.mk (And.intro (Nat.le_trans HB.out.size hb1) hb2)
    clear hb1 hb2 hB1 hI HB
    go_wp2_with (fail)
    refine (RNew_calls rm _ HRMR.out.1 (by have := HRMR.out; omega)).mono ?_
    rintro e w3 ⟨x, rfl, hx1, hx2, hB2, hI2⟩
    have HB2 := Aside0.mk (below_step HB1.out hB2)
    have HNE := Aside0.mk (show W.heap.size ≤ b ∧ b < x from ⟨HL1.out.1, Nat.lt_of_lt_of_le HL1.out.2 hx1⟩)
    obtain ⟨G, hG⟩ : ∃ G : Nat → Prop, (fun k => k = b ∨ k = x) = G := ⟨_, rfl⟩
    have HD2 := Aside0.mk (show IsD G w3 b (newP rm) by
      rw [← hG]
      exact IsD.more (HI1.out (fun k => k = b) (fun k e => e ▸ HL1.out.2) rfl) hx1 hx2 hB2)
    have HX2 := Aside0.mk (show IsX G w3 x (newP rm) from hI2 G (by rw [← hG]; rintro k (rfl | rfl); exact Nat.lt_of_lt_of_le HL1.out.2 hB2.size; exact hx2) (by rw [← hG]; exact .inr rfl))
    have HPS := Aside0.mk (show PS G w3.heap.size W w3 b x (.pointer none) (.pointer none) none (newP rm) from ⟨HD2.out, HX2.out, HB2.out, by rw [← hG]; have := HNE.out; intro k hk; omega, HD2.out.lt b HD2.out.gg, HX2.out.ltg, rfl, rfl⟩)
    clear hx1 hx2 hB2 hI2 HI1 HB1 HL1 hG HD2 HX2 HB2
    have HOK := Aside0.mk (newP_okk rm (by have := HRMR.out; omega))
    have HBS := Aside0.mk (newP_bs rm)
    have HRM := Aside0.mk (show (newP rm).room ≠ 0 by show rm ≠ 0; have := HRMR.out; omega)
    generalize newP rm = s0 at *
    obtain ⟨⟨o, s, e0⟩, ho⟩ : ∃ q, openT s0 = q := ⟨_, rfl⟩
    have HO := Aside0.mk ho
    clear ho
    go_wp2_with (fail)
    refine (Open_calls G b s0 _ HPS.out.dd HOK.out HBS.out).mono ?_
    rw [HO.out]
    rintro e w5 ⟨p, rfl, hD5, hW5, hp⟩
    go_wp2_with (fail)
    refine (rOpen_calls _ x s0 _ (PS.openA HPS.out hD5 hW5) HOK.out HBS.out HRM.out).mono ?_
    rw [HO.out]
    rintro e w6 ⟨q, rfl, hX6, hW6, hq⟩
    obtain ⟨G6, hP6⟩ := PS.openB HPS.out hD5 hW5 hp hX6 hW6 hq
    have HPS6 := Aside0.mk hP6
    have HOK6 := Aside0.mk (show Okk s by have := openT_okk HOK.out; rw [HO.out] at this; exact this)
    have HBS6 := Aside0.mk (show BsD s by have := openT_bsd HOK.out HBS.out; rw [HO.out] at this; exact this)
    have HRM6 := Aside0.mk (show s.room ≠ 0 by have := openT_room s0; rw [HO.out] at this; rw [this]; exact HRM.out)
    have HZ6 := Aside0.mk (show ∀ z, o = some z → Zok z (5000000 + 0) from fun z e => by subst e; exact (openT_zok HBS.out HOK.out.1 HO.out).mono (by omega))
    have de : (e0 != e0) = false := by simp
    clear hD5 hW5 hp hX6 hW6 hq hP6 HPS HOK HBS HRM HO
    have HTL := Aside0.mk (tells_any HPS6.out (fun z e => (HZ6.out z e).bnd))
    have HLM := Aside0.mk (Kd.C_max HC1.out.2)
    go_wp2_with (fail)
    refine HTL.out.mono ?_
    rintro e w7 ⟨rfl, hb⟩
    have HPS7 := Aside0.mk ((HPS6.out.below hb).bound hb.size)
    clear hb HPS6 HTL de
    go_wp2_with (fail)
    go_loopg [9, 11, 64] l1.length (fun fu v9 v11 v64 wr => ∃ (j : Nat) (G : Nat → Prop) (o : Option TS) (s : DS), j + fu = l1.length ∧ v64 = .int .i64 (j : Int) ∧ Aside0 (Okk s) ∧ Aside0 (BsD s) ∧ Aside0 (s.room ≠ 0) ∧ Aside0 (∀ z, o = some z → Zok z (5000000 + j)) ∧ Aside0 (PS G wr.heap.size W wr b x v9 v11 o s))
    case atStart => exact ⟨0, G6, o, s, by omega, rfl, HOK6, HBS6, HRM6, HZ6, HPS7⟩
    case round =>
      clear HOK6 HBS6 HRM6 HZ6 HPS7
      obtain ⟨j, G, o, s, hj, rfl, HOK, HBS, HRM, HZ, HPS⟩ := hrel
      have HJF := Aside0.mk hj
      by_cases hlt : j < l1.length
      · obtain ⟨ad, A, ca, A3, c3, B, cb, e1, h0, h1, h2, h3, h4, lA, gA, l3, g3, lB, gB⟩ := at_T79 HC1.out.2 (j : Int) (by omega) (by omega)
        cases e1
        rw [Int.toNat_natCast] at h0 h1 h2 h3 h4
        have HJL := Aside0.mk hlt
        have hg := HG1.out _ (rdT_mem hlt)
        have hsm := HSM.out.2 _ (rdT_mem hlt)
        generalize rd_T79 l1 (j : Int) = el at *
        obtain ⟨op, n, bs, ls, ks⟩ := el
        simp only at h0 h1 h2 h3 h4 lA gA l3 g3 lB gB
        have HSB := Aside0.mk (show Bs bs from bs_wf hg.2.2.1)
        have HSL := Aside0.mk (show ∀ d ∈ ls, Bs d from fun d hd => bs_wf (hg.2.2.2.1 d hd))
        have HSK := Aside0.mk (show I64 ks from fun y hy => wf_i64 (hg.2.2.2.2 y hy))
        have HSN := Aside0.mk (show -9223372036854775808 ≤ n ∧ n ≤ 9223372036854775807 from wf_i64 hg.2.1)
        have HBLN := Aside0.mk (show bs.length ≤ 16384 from hsm.b)
        have HKLN := Aside0.mk (show ks.length ≤ 16384 from hsm.keep)
        have HLL := Aside0.mk (show 4 * ls.length ≤ 16384 ∧ ∀ d ∈ ls, d.length ≤ 16384 from ⟨hsm.many, hsm.l⟩)
        have HCB := Aside0.mk (And.intro lA gA)
        have HCL := Aside0.mk (And.intro l3 g3)
        have HCK := Aside0.mk (And.intro lB gB)
        have HW := Aside0.mk HPS.out.w
        replace h0 := (HW.out.cell (World.block_lt_of_cell? W _ h0)).trans h0
        replace h1 := (HW.out.cell (World.block_lt_of_cell? W _ h1)).trans h1
        replace h2 := (HW.out.cell (World.block_lt_of_cell? W _ h2)).trans h2
        replace h3 := (HW.out.cell (World.block_lt_of_cell? W _ h3)).trans h3
        replace h4 := (HW.out.cell (World.block_lt_of_cell? W _ h4)).trans h4
        clear gA lA g3 l3 gB lB hg hsm
        obtain ⟨k, hk⟩ : ∃ k, wr.heap.size = k := ⟨_, rfl⟩
        have HKB := Aside0.mk (show (wr.alloc (.cells #[.int .i64 op, .int .i64 n, .slice A bs.length ca, .slice A3 ls.length c3, .slice B ks.length cb] 79)).heap[k]? = some (.cells #[.int .i64 op, .int .i64 n, .slice A bs.length ca, .slice A3 ls.length c3, .slice B ks.length cb] 79 (0, 0)) by rw [← hk]; exact blk_new _ _)
        have HWB := Aside0.mk (below_alloc (Below.refl wr.heap.size wr) (.cells #[.int .i64 op, .int .i64 n, .slice A bs.length ca, .slice A3 ls.length c3, .slice B ks.length cb] 79))
        have hc0 := (blk_cell HKB.out 0).trans (show _ = some (Value.int .i64 op) from rfl)
        have hc2 := (blk_cell HKB.out 2).trans (show _ = some (Value.slice A bs.length ca) from rfl)
        cases o with
        | none =>
          obtain ⟨hp, hq⟩ := HPS.out.t
          subst hp hq
          clear hc0 hc2
          go_wp2_with (fail)
          refine (Tp.awake_calls _).mono ?_
          rintro e w9 ⟨rfl, hb⟩
          have HB9 := Aside0.mk (below_step (below_step HW.out HWB.out) hb)
          clear hb
          go_wp2_with (fail)
          go_ret
          exact ⟨rfl, HB9.out⟩
        | some z =>
          obtain ⟨t, u, hp, hq, hT, hY, hty, hub, htu, htl, hul⟩ := HPS.out.t
          subst hp hq
          have HZZ := Aside0.mk (HZ.out z rfl)
          clear HZ hT hY
          go_wp2_with (fail)
          refine (Clone_b A ca bs _ (Kd.C_below (Kd.C_below HCB.out.2 HW.out) HWB.out) HCB.out.1 (by have := HBLN.out; omega)).mono ?_
          rintro e w5 ⟨v1, rfl, hR1, hb1⟩
          obtain ⟨A1', c1', e1⟩ := Kd.R_slice hR1
          subst e1
          have hbr := below_step HWB.out hb1
          have HK5 := Aside0.mk (blk_below HKB.out hb1)
          obtain ⟨M, hM⟩ : ∃ M, w5.heap.size = M := ⟨_, rfl⟩
          have hkM : k < M := by rw [← hM]; exact blk_lt HK5.out
          have HR0 := Aside0.mk (show Kd.R (Kd.int .u8) 5 w5 k (fun g => k ≤ g ∧ g < M) (.slice A1' bs.length c1') bs from Kd.R_mono (Kd.R_bound (Kd.R_lower hR1 (by rw [← hk]; exact HWB.out.size))) (fun g hg => ⟨hg.2.1, by rw [← hM]; exact hg.2.2.1⟩))
          obtain ⟨G1, hG1⟩ : ∃ G1 : Nat → Prop, (fun g => G g ∨ (wr.heap.size ≤ g ∧ g < w5.heap.size)) = G1 := ⟨_, rfl⟩
          have HPS5 := Aside0.mk (show PS G1 k W w5 b x (.pointer (some ⟨t, 0, none⟩)) (.pointer (some ⟨u, 0, none⟩)) (some z) s by
            rw [← hG1, ← hk]; exact HPS.out.moreN hbr)
          have HGM := Aside0.mk (show ∀ g, k ≤ g → g < M → G1 g by
            rw [← hG1]; intro g h1 h2; exact .inr ⟨by omega, by omega⟩)
          have HLT := Aside0.mk (show t < k ∧ u < k ∧ b < k ∧ x < k from ⟨by rw [← hk]; exact htl, by rw [← hk]; exact hul, HPS5.out.db, HPS5.out.yb⟩)
          have HLE := Aside0.mk (show (∀ g, TG t b g → W.heap.size ≤ g) ∧ (∀ g, TG u x g → W.heap.size ≤ g) by
            obtain ⟨q1, q2, _⟩ := HPS5.out.tt
            exact ⟨fun g hg => hg.elim (fun e => e ▸ HPS5.out.gw t q1.gt) (fun e => e ▸ HPS5.out.gw b HPS5.out.dd.gg), fun g hg => hg.elim (fun e => e ▸ HPS5.out.gw u q2.gt) (fun e => e ▸ HPS5.out.gw x HPS5.out.xx.gg)⟩)
          have HW5 := Aside0.mk (below_step HW.out hbr)
          have HJS := Aside0.mk (show j < 100 by have := HSM.out.1; omega)
          have HKM := Aside0.mk hkM
          have HMW := Aside0.mk hM
          have hd0 := (blk_cell HK5.out 0).trans (show _ = some (Value.int .i64 op) from rfl)
          clear hR1 hb1 hbr hG1 hM hkM hty hub htu htl hul h0 h1 h2 h3 h4 hc0 hc2 HKB HWB HPS hk HW
          obtain ⟨wo, hwo⟩ : ∃ wo, wo = wr := ⟨_, rfl⟩
          subst hwo
          obtain ⟨gko, hgko⟩ : ∃ g, g = gk := ⟨_, rfl⟩
          subst hgko
          go_upto_block 2 with (fail)
          obtain ⟨O, hO⟩ : ∃ O : Int, Go.bits .and .i64 op 7 = O := ⟨_, rfl⟩
          rw [hO]
          have HO := Aside0.mk hO
          clear hO hd0
          go_cut [10, 12] (fun v10 v12 wx => ∃ (G' : Nat → Prop) (z' : TS) (s' : DS) (er : Int), v10 = .int .i64 er ∧ v12 = .int .i64 er ∧ Aside0 (Okk s') ∧ Aside0 (BsD s') ∧ Aside0 (s'.room ≠ 0) ∧ Aside0 (Zok z' (5000000 + (j + 1))) ∧ Aside0 (PS G' k W wx b x (.pointer (some ⟨t, 0, none⟩)) (.pointer (some ⟨u, 0, none⟩)) (some z') s') ∧ Aside0 (Kd.R (Kd.int .u8) 5 wx k (fun g => k ≤ g ∧ g < M) (.slice A1' bs.length c1') bs) ∧ Aside0 (∀ g, k ≤ g → g < M → G' g))
          case first =>
            by_cases c4 : O = 4
            · have d1 : (O == (4 : Int)) = true := by simpa using c4
              have d2 : decide (O = (4 : Int)) = true := decide_eq_true c4
              clear c4
              obtain ⟨⟨z2, s2, er⟩, hpu⟩ : ∃ q, syncT z s = q := ⟨_, rfl⟩
              have HPU := Aside0.mk hpu
              have HOK2 := Aside0.mk (show Okk s2 by have := syncT_okk HOK.out z; rw [hpu] at this; exact this)
              have HBS2 := Aside0.mk (show BsD s2 by have := syncT_bsd HBS.out z; rw [hpu] at this; exact this)
              have HRM2 := Aside0.mk (show s2.room ≠ 0 by have := syncT_room z s; rw [hpu] at this; rw [this]; exact HRM.out)
              have HZ2 := Aside0.mk (show Zok z2 (5000000 + (j + 1)) by have := HZZ.out.sync s; rw [hpu] at this; exact this.mono (by omega))
              clear hpu
              go_wp2_with (fail)
              refine (TSync_calls G1 t b z s _ (PS.tt HPS5.out).1 HPS5.out.dd HOK.out).mono ?_
              rw [HPU.out]
              rintro e w6 ⟨rfl, hT, hD, hW⟩
              have HM := Aside0.mk (PS.mid HPS5.out hW)
              have HT1 := Aside0.mk hT
              have HD1 := Aside0.mk hD
              have HW1 := Aside0.mk hW
              have HR1 := Aside0.mk (row_keep HR0.out hW (fun g_ hg => by have := HLT.out; unfold TG at hg; omega))
              clear hT hD hW
              go_wp2_with (fail)
              refine (rTSync_calls G1 u x z s _ HM.out.1 HM.out.2 HOK.out HRM.out).mono ?_
              rw [HPU.out]
              rintro e w7 ⟨rfl, hT, hD, hW⟩
              have HPS2 := Aside0.mk (PS.acts HPS5.out HT1.out HD1.out HW1.out hT hD hW)
              have HR := Aside0.mk (row_keep HR1.out hW (fun g_ hg => by have := HLT.out; unfold TG at hg; omega))
              clear hT hD hW
              go_wp2_with (fail)
              go_meet
              exact ⟨G1, z2, s2, _, rfl, rfl, HOK2, HBS2, HRM2, HZ2, HPS2, HR, HGM⟩
            have d1 : (O == (4 : Int)) = false := by simpa using c4
            have d2 : decide (O = (4 : Int)) = false := decide_eq_false c4
            clear c4
            by_cases c5 : O = 5
            · have d3 : (O == (5 : Int)) = true := by simpa using c5
              have d4 : decide (O = (5 : Int)) = true := decide_eq_true c5
              clear c5
              have hd3 := (blk_cell HK5.out 3).trans (show _ = some (Value.slice A3 ls.length c3) from rfl)
              have HG0 := Aside0.mk (show Kd.R KdB 32 w5 w5.heap.size (fun _ => True) (.slice none 0 0) (ls.take 0) ∧ Below w5.heap.size w5 w5 from ⟨Kd.R_nil _ _ _ _ _, Below.refl _ _⟩)
              go_wp2_with (fail)
              clear hd3
              go_loopg [16, 96] ls.length (fun fu v16 v96 wr => ∃ j' : Nat, j' + fu = ls.length ∧ v96 = .int .i64 (j' : Int) ∧ Aside0 (Kd.R KdB 32 wr w5.heap.size (fun _ => True) v16 (ls.take j') ∧ Below w5.heap.size w5 wr))
              case atStart => exact ⟨0, by omega, rfl, HG0⟩
              case round =>
                clear HG0
                obtain ⟨j', hjf', rfl, H⟩ := hrel
                have HJF' := Aside0.mk hjf'
                obtain ⟨Q, hQ⟩ : ∃ Q, ls.take j' = Q := ⟨_, rfl⟩
                have HQ := Aside0.mk hQ
                rw [hQ] at H
                obtain ⟨Ax, cx, rfl⟩ := Kd.R_slice H.out.1
                have HRL0 := Aside0.mk H.out.1
                have HBW := Aside0.mk H.out.2
                clear H hQ
                by_cases hlt' : j' < ls.length
                · have e1 : decide ((j' : Int) < (ls.length : Int)) = true := decide_eq_true (by omega)
                  obtain ⟨ad3, A2, c2, e0, hc2, hC2, hx⟩ := bb_get (Kd.C_below HCL.out.2 (below_step HW5.out HBW.out)) j' hlt'
                  subst e0
                  have HDL := Aside0.mk (show (ls.getD j' []).length < 140737488355328 by
                    have : (ls.getD j' []).length ≤ 16384 := by
                      rw [List.getD_eq_getElem?_getD, List.getElem?_eq_getElem hlt']
                      exact HLL.out.2 _ (List.getElem_mem hlt')
                    omega)
                  have hi1 : (j' : Int) < (ls.length : Int) := by omega
                  have hi0 : (0 : Int) ≤ (j' : Int) := by omega
                  have HLT' := Aside0.mk hlt'
                  have HTK := Aside0.mk (show ls.take (j' + 1) = Q ++ [ls.getD j' []] by rw [← HQ.out, List.take_add_one, List.getD_eq_getElem?_getD, List.getElem?_eq_getElem hlt']; rfl)
                  have HOL := Aside0.mk (show (Q.length + 1) * 24 ≤ 140737488355328 by
                    have h1 : Q.length ≤ ls.length := by rw [← HQ.out, List.length_take]; omega
                    have := HLL.out.1
                    omega)
                  have HW' := Aside0.mk (show wrap64 ((j' : Int) + 1) = ((j' + 1 : Nat) : Int) by have := HLL.out.1; unfold wrap64; omega)
                  have HFK := Aside0.mk (Kd.fresh_ok HRL0.out)
                  generalize ls.getD j' [] = D at *
                  have HC2 := Aside0.mk (And.intro hc2 hC2)
                  have hx2 : wr.cell? (ad3.add ((j' : Int).toNat * 1)) = some (.slice A2 D.length c2) := by rw [Int.toNat_natCast, Nat.mul_one]; exact hx
                  clear hc2 hC2 hlt' hjf'
                  go_wp2_with (fail)
                  refine (Clone_b A2 c2 D _ HC2.out.2 HC2.out.1 HDL.out).mono ?_
                  rintro e w6 ⟨v6, rfl, hR6, hB6⟩
                  obtain ⟨A6, c6, e6⟩ := Kd.R_slice hR6
                  subst e6
                  have HR6 := Aside0.mk hR6
                  have HB6 := Aside0.mk hB6
                  clear hR6 hB6 hx hx2
                  go_wp2_with (first | ((with_reducible refine gate_builtin (b := .append) (xs := #[.tmp 100, .tmp 103]) rfl ?_); at_builtin; refine Kd.R_append KdB (w0 := w5) w5.heap.size rfl (.tmp 100) (.tmp 103) 46 32 (.slice none 0 0) 24 rfl Try.underlying46 Wk.info32 rfl (by decide) (by omega) (.slice Ax Q.length cx) Q D [.slice A6 D.length c6] (fun _ => True) (fun g_ => wr.heap.size ≤ g_) rfl rfl ?aM ?aK (fun _ _ => trivial) ?aR ?aB ?aS ?aL ?_; (case aM => exact ⟨_, rfl, Kd.R_lower (Kd.R_mono (Kd.R_bound HR6.out) (fun k hk => hk.2.1)) HBW.out.size⟩); (case aK => exact fun k hk => ⟨trivial, HFK.out k hk⟩); (case aR => exact Kd.R_below HRL0.out HB6.out); (case aB => exact below_step HBW.out HB6.out); (case aS => exact Nat.le_trans HBW.out.size HB6.out.size); (case aL => exact HOL.out); intro v7 w7 h7 hb7 hg7 _; have HR7 := Aside0.mk h7; have HB7 := Aside0.mk hb7; clear h7 hb7 hg7))
                  rw [HW'.out]
                  go_roundg (gk - 1)
                  case rel => exact ⟨j' + 1, by have := HJF'.out; have := HLT'.out; omega, rfl, ⟨by rw [HTK.out]; exact ⟨HR7.out, HB7.out⟩⟩⟩
                  case measure => have := HJF'.out; have := HLT'.out; omega
                · obtain rfl : j' = ls.length := by omega
                  have e1 : decide ((ls.length : Int) < (ls.length : Int)) = false := decide_eq_false (by omega)
                  have hQe : ls = Q := by rw [← HQ.out, List.take_length]
                  subst hQe
                  obtain ⟨w6, hw6⟩ : ∃ w6, w6 = wr := ⟨_, rfl⟩
                  subst hw6
                  obtain ⟨M2, hM2⟩ : ∃ M2, w6.heap.size = M2 := ⟨_, rfl⟩
                  have HM2 := Aside0.mk hM2
                  have HMM := Aside0.mk (show M ≤ M2 by have := HBW.out.size; have := HMW.out; omega)
                  obtain ⟨G2, hG2⟩ : ∃ G2 : Nat → Prop, (fun g => G1 g ∨ (w5.heap.size ≤ g ∧ g < w6.heap.size)) = G2 := ⟨_, rfl⟩
                  have HPS := Aside0.mk (show PS G2 k W w6.drew b x (.pointer (some ⟨t, 0, none⟩)) (.pointer (some ⟨u, 0, none⟩)) (some z) s by
                    rw [← hG2]; exact (HPS5.out.moreN HBW.out).below (below_drew1 (Below.refl _ _)))
                  have HGM2 := Aside0.mk (show ∀ g, k ≤ g → g < M2 → G2 g by
                    rw [← hG2]; intro g q1 q2
                    by_cases c : g < M
                    · exact .inl (HGM.out g q1 c)
                    · exact .inr ⟨by have := HMW.out; omega, by omega⟩)
                  have HKD := Aside0.mk (blk_drew (blk_below HK5.out HBW.out))
                  have HWD := Aside0.mk (below_drew1 (below_step HW5.out HBW.out))
                  have HR := Aside0.mk (Kd.R_below (Kd.R_below HR0.out HBW.out) (below_drew1 (Below.refl w6.heap.size w6)))
                  have HRO := Aside0.mk (show Kd.R KdB 32 w6.drew M (fun g => M ≤ g ∧ g < M2) (.slice Ax ls.length cx) ls by
                    have h1 := Kd.R_bound HRL0.out
                    have h2 := Kd.R_below h1 (below_drew1 (Below.refl w6.heap.size w6))
                    rw [HMW.out, HM2.out] at h2
                    exact Kd.R_mono h2 (fun g hg => ⟨hg.2.1, hg.2.2.1⟩))
                  have HRG := Aside0.mk (row_rw HR.out (P := TG t b) (fun g_ hg => by have := HLT.out; unfold TG at hg; omega))
                  have HRL := Aside0.mk (show Rs (TG t b) w6.drew (.slice Ax ls.length cx) ls from show Kd.V KdB 32 w6.drew 0 (fun g => ¬ TG t b g) _ ls from Kd.R_V (Kd.R_mono HRO.out (fun g hg e => by have h1 := HLT.out; have h2 := HKM.out; have h3 : M ≤ g := hg.1; unfold TG at e; omega)))
                  have HSO := Aside0.mk (HZZ.out.saveOk HSB.out HSL.out (by have := HBLN.out; omega) HLL.out.1 HLL.out.2)
                  obtain ⟨⟨z2, s2, er⟩, hpu⟩ : ∃ q, saveP z s bs ls = q := ⟨_, rfl⟩
                  have HPU := Aside0.mk hpu
                  have HOK2 := Aside0.mk (show Okk s2 by have := saveP_okk HOK.out z bs ls; rw [hpu] at this; exact this)
                  have HBS2 := Aside0.mk (show BsD s2 by have := saveP_bsd HBS.out z HSB.out HSL.out (by have := HZZ.out.gen; omega) (by have := HLL.out.1; omega); rw [hpu] at this; exact this)
                  have HRM2 := Aside0.mk (show s2.room ≠ 0 by have := saveP_room z s bs ls; rw [hpu] at this; rw [this]; exact HRM.out)
                  have HZ2 := Aside0.mk (show Zok z2 (5000000 + (j + 1)) by have := HZZ.out.save s bs ls (by have := HLL.out.1; omega); rw [hpu] at this; exact this.mono (by omega))
                  clear hpu hM2 hG2 hlt' hjf' HPS5 HR0 HRL0 HBW
                  go_wp2_with (fail)
                  refine start_ (n := 14) (S := fun w' => w'.heap[k]? = some (.cells #[.int .i64 op, .int .i64 n, .slice A bs.length ca, .slice A3 ls.length c3, .slice B ks.length cb] 79 (0, 0)) ∧ Below W.heap.size W w') (ds := []) #[false, false, false, false, false, false, false, false, false, false, false, false, false, false] (by kernel_rfl) rfl rfl ⟨HKD.out, HWD.out⟩ (fun hHeld => ?_)
                  refine pure_ (i := 0) (N := some 106) (v := ?_) (a' := ?_) #[true, false, false, false, false, false, false, false, false, false, false, false, false, false] rfl rfl (by kernel_rfl) (fun _ _ _ h => h) (Or.inl ⟨by rfl, ?_⟩) ?_ ?_
                  rotate_left
                  · intro w'
                    go_simp
                    with_reducible rfl
                  rotate_left
                  · simp only [Act.put, List.setIfInBounds_toArray, List.set_cons_zero, List.set_cons_succ, i64_w, i32_w]
                    rfl
                  refine pure_ (i := 1) (N := some 107) (v := ?_) (a' := ?_) #[true, true, false, false, false, false, false, false, false, false, false, false, false, false] rfl rfl (by kernel_rfl) (fun _ _ _ h => h) (Or.inl ⟨by rfl, ?_⟩) ?_ ?_
                  rotate_left
                  · intro w'
                    go_simp
                    with_reducible rfl
                  rotate_left
                  · simp only [Act.put, List.setIfInBounds_toArray, List.set_cons_zero, List.set_cons_succ, i64_w, i32_w]
                    rfl
                  refine pure_ (i := 2) (N := some 108) (v := ?_) (a' := ?_) #[true, true, true, false, false, false, false, false, false, false, false, false, false, false] rfl rfl (by kernel_rfl) (fun _ _ _ h => h) (Or.inl ⟨by rfl, ?_⟩) ?_ ?_
                  rotate_left
                  · intro w'
                    go_simp
                    with_reducible rfl
                  rotate_left
                  · simp only [Act.put, List.setIfInBounds_toArray, List.set_cons_zero, List.set_cons_succ, i64_w, i32_w]
                    rfl
                  refine pure_ (i := 4) (N := some 110) (v := ?_) (a' := ?_) #[true, true, true, false, true, false, false, false, false, false, false, false, false, false] rfl rfl (by kernel_rfl) (fun _ _ _ h => h) (Or.inl ⟨by rfl, ?_⟩) ?_ ?_
                  rotate_left
                  · intro w'
                    go_simp
                    with_reducible rfl
                  rotate_left
                  · simp only [Act.put, List.setIfInBounds_toArray, List.set_cons_zero, List.set_cons_succ, i64_w, i32_w]
                    rfl
                  refine pure_ (i := 5) (N := some 111) (v := ?_) (a' := ?_) #[true, true, true, false, true, true, false, false, false, false, false, false, false, false] rfl rfl (by kernel_rfl) (fun _ _ _ h => h) (Or.inl ⟨by rfl, ?_⟩) ?_ ?_
                  rotate_left
                  · intro w'
                    go_simp
                    with_reducible rfl
                  rotate_left
                  · simp only [Act.put, List.setIfInBounds_toArray, List.set_cons_zero, List.set_cons_succ, i64_w, i32_w]
                    rfl
                  refine pure_ (i := 8) (N := some 114) (v := ?_) (a' := ?_) #[true, true, true, false, true, true, false, false, true, false, false, false, false, false] rfl rfl (by kernel_rfl) (fun _ _ _ h => h) (Or.inl ⟨by rfl, ?_⟩) ?_ ?_
                  rotate_left
                  · intro w'
                    go_simp
                    with_reducible rfl
                  rotate_left
                  · simp only [Act.put, List.setIfInBounds_toArray, List.set_cons_zero, List.set_cons_succ, i64_w, i32_w]
                    rfl
                  refine take_ (i := 6) (N := some 112) (v := ?_) (a' := ?_) #[true, true, true, false, true, true, true, false, true, false, false, false, false, false] rfl rfl (by kernel_rfl) (fun _ _ _ h => h) (Or.inl ⟨by rfl, ?_⟩) hHeld ?_ ?_
                  rotate_left
                  · rintro w' ⟨s0, s1⟩
                    have d2_ := (blk_cell s0 2).trans (show _ = some (Value.slice A bs.length ca) from rfl)
                    go_simp
                    with_reducible rfl
                  rotate_left
                  · simp only [Act.put, List.setIfInBounds_toArray, List.set_cons_zero, List.set_cons_succ, i64_w, i32_w]
                    rfl
                  refine take_ (i := 7) (N := some 113) (v := ?_) (a' := ?_) #[true, true, true, false, true, true, true, true, true, false, false, false, false, false] rfl rfl (by kernel_rfl) (fun _ _ _ h => h) (Or.inl ⟨by rfl, ?_⟩) hHeld ?_ ?_
                  rotate_left
                  · rintro w' ⟨s0, s1⟩
                    have hk_ := Kd.C_string (P := Try.prog) (A := A) (c := ca) Try.underlying32 Try.underlying5 Try.underlying9 (Kd.C_below HCB.out.2 s1)
                    go_simp
                    with_reducible rfl
                  rotate_left
                  · simp only [Act.put, List.setIfInBounds_toArray, List.set_cons_zero, List.set_cons_succ, i64_w, i32_w]
                    rfl
                  refine take_ (i := 9) (N := some 115) (v := ?_) (a' := ?_) #[true, true, true, false, true, true, true, true, true, true, false, false, false, false] rfl rfl (by kernel_rfl) (fun _ _ _ h => h) (Or.inl ⟨by rfl, ?_⟩) hHeld ?_ ?_
                  rotate_left
                  · rintro w' ⟨s0, s1⟩
                    have d2_ := (blk_cell s0 3).trans (show _ = some (Value.slice A3 ls.length c3) from rfl)
                    go_simp
                    with_reducible rfl
                  rotate_left
                  · simp only [Act.put, List.setIfInBounds_toArray, List.set_cons_zero, List.set_cons_succ, i64_w, i32_w]
                    rfl
                  refine one_ (i := 3) (N := some 109) #[true, true, true, true, true, true, true, true, true, true, false, false, false, false] rfl rfl (by kernel_rfl) (by decide) (fun K hK => ?_)
                  refine goes_ Try.func26 (by kernel_rfl) rfl #[.pointer (some ⟨t, 0, none⟩), .slice A1' bs.length c1', .slice Ax ls.length cx] (by rfl) rfl rfl (by first | rfl | (simp; done) | (simp only [List.map_toArray, List.map_cons, List.map_nil]; rfl)) ?_
                  with_reducible refine (SaveT_calls G2 t b z s _ _ bs ls _ (PS.tt HPS.out).1 HPS.out.dd HOK.out HRG.out HRL.out HSO.out).mono ?_
                  rw [HPU.out]
                  rintro e w6 ⟨rfl, hT, hD, hW⟩
                  refine ⟨_, rfl, ?_⟩
                  have HM := Aside0.mk (PS.mid HPS.out hW)
                  have HT1 := Aside0.mk hT
                  have HD1 := Aside0.mk hD
                  have HW1 := Aside0.mk hW
                  have n0_ := Aside0.mk (row_keep HR.out hW (fun g_ hg => by have := HLT.out; unfold TG at hg; omega))
                  clear HR
                  have HR := n0_
                  clear n0_
                  have n0_ := Aside0.mk (rows_keep HRO.out (fun _ h => h.1) hW (fun g_ hg => by have := HLT.out; have := HKM.out; unfold TG at hg; omega))
                  clear HRO
                  have HRO := n0_
                  clear n0_
                  refine hK.out _ _ ⟨(hW.block k (blk_lt hHeld.1) (by have := HLT.out; unfold TG; omega)).trans hHeld.1, hW.below hHeld.2 (fun b_ hb => HLE.out.1 b_ hb)⟩ (fun hHeld => ?_)
                  clear hK K
                  refine norm_ (a' := ?_) ?_ ?_
                  rotate_left
                  · show Act.put _ (some 109) _ = _
                    simp only [Act.put, List.setIfInBounds_toArray, List.set_cons_zero, List.set_cons_succ, i64_w, i32_w]
                    rfl
                  refine one_ (i := 10) (N := some 116) #[true, true, true, true, true, true, true, true, true, true, true, false, false, false] rfl rfl (by kernel_rfl) (by decide) (fun K hK => ?_)
                  refine goes_ Try.func43 (by kernel_rfl) rfl #[.slice A3 ls.length c3] (by rfl) rfl rfl (by first | rfl | (simp; done) | (simp only [List.map_toArray, List.map_cons, List.map_nil]; rfl)) ?_
                  with_reducible refine (texts_calls A3 c3 ls _ (Kd.C_below HCL.out.2 hHeld.2) HCL.out.1 (by have := HLL.out.1; omega)).mono ?_
                  rintro e w8 ⟨v, rfl, hR, hb⟩
                  refine ⟨_, rfl, ?_⟩
                  obtain ⟨AT, cT, e8⟩ := Kd.R_slice hR
                  subst e8
                  have hml_ : (ls.map strOfNums).length = ls.length := by simp
                  rw [hml_] at hR
                  have HTX := Aside0.mk (show St G2 w8 (.slice AT ls.length cT) (ls.map strOfNums) from St.of_R hR HD1.out.lt)
                  have n0_ := Aside0.mk (And.intro (HM.out.1.below hb) (IsX.below HM.out.2 hb))
                  clear HM
                  have HM := n0_
                  clear n0_
                  have n0_ := Aside0.mk (HT1.out.below hb)
                  clear HT1
                  have HT1 := n0_
                  clear n0_
                  have n0_ := Aside0.mk (IsD.below HD1.out hb)
                  clear HD1
                  have HD1 := n0_
                  clear n0_
                  have n0_ := Aside0.mk (HW1.out.trans (Ws.of_below hb))
                  clear HW1
                  have HW1 := n0_
                  clear n0_
                  have n0_ := Aside0.mk (Kd.R_below HR.out hb)
                  clear HR
                  have HR := n0_
                  clear n0_
                  have n0_ := Aside0.mk (Kd.R_below HRO.out hb)
                  clear HRO
                  have HRO := n0_
                  clear n0_
                  rw [hml_]
                  clear hR hml_
                  refine hK.out _ _ ⟨blk_below hHeld.1 hb, below_step hHeld.2 hb⟩ (fun hHeld => ?_)
                  clear hK K
                  refine norm_ (a' := ?_) ?_ ?_
                  rotate_left
                  · show Act.put _ (some 116) _ = _
                    simp only [Act.put, List.setIfInBounds_toArray, List.set_cons_zero, List.set_cons_succ, i64_w, i32_w]
                    rfl
                  refine one_ (i := 11) (N := some 117) #[true, true, true, true, true, true, true, true, true, true, true, true, false, false] rfl rfl (by kernel_rfl) (by decide) (fun K hK => ?_)
                  refine goes_ Try.func49 (by kernel_rfl) rfl #[.pointer (some ⟨u, 0, none⟩), .string (strOfNums bs), .slice AT ls.length cT] (by rfl) rfl rfl (by first | rfl | (simp; done) | (simp only [List.map_toArray, List.map_cons, List.map_nil]; rfl)) ?_
                  with_reducible refine (rSave_calls G2 u x z s _ bs ls _ HM.out.1 HM.out.2 HOK.out HRM.out HTX.out HSO.out (by have := HBLN.out; omega) HZZ.out.gen.2).mono ?_
                  rw [HPU.out]
                  rintro e w7 ⟨rfl, hT, hD, hW⟩
                  refine ⟨_, rfl, ?_⟩
                  have HPS2 := Aside0.mk (PS.acts HPS.out HT1.out HD1.out HW1.out hT hD hW)
                  have n0_ := Aside0.mk (row_keep HR.out hW (fun g_ hg => by have := HLT.out; unfold TG at hg; omega))
                  clear HR
                  have HR := n0_
                  clear n0_
                  have n0_ := Aside0.mk (rows_keep HRO.out (fun _ h => h.1) hW (fun g_ hg => by have := HLT.out; have := HKM.out; unfold TG at hg; omega))
                  clear HRO
                  have HRO := n0_
                  clear n0_
                  refine hK.out _ _ ⟨(hW.block k (blk_lt hHeld.1) (by have := HLT.out; unfold TG; omega)).trans hHeld.1, hW.below hHeld.2 (fun b_ hb => HLE.out.2 b_ hb)⟩ (fun hHeld => ?_)
                  clear hK K
                  refine norm_ (a' := ?_) ?_ ?_
                  rotate_left
                  · show Act.put _ (some 117) _ = _
                    simp only [Act.put, List.setIfInBounds_toArray, List.set_cons_zero, List.set_cons_succ, i64_w, i32_w]
                    rfl
                  refine pure_ (i := 12) (N := some 10) (v := ?_) (a' := ?_) #[true, true, true, true, true, true, true, true, true, true, true, true, true, false] rfl rfl (by kernel_rfl) (fun _ _ _ h => h) (Or.inl ⟨by rfl, ?_⟩) ?_ ?_
                  rotate_left
                  · intro w'
                    go_simp
                    with_reducible rfl
                  rotate_left
                  · simp only [Act.put, List.setIfInBounds_toArray, List.set_cons_zero, List.set_cons_succ, i64_w, i32_w]
                    rfl
                  refine pure_ (i := 13) (N := some 12) (v := ?_) (a' := ?_) #[true, true, true, true, true, true, true, true, true, true, true, true, true, true] rfl rfl (by kernel_rfl) (fun _ _ _ h => h) (Or.inl ⟨by rfl, ?_⟩) ?_ ?_
                  rotate_left
                  · intro w'
                    go_simp
                    with_reducible rfl
                  rotate_left
                  · simp only [Act.put, List.setIfInBounds_toArray, List.set_cons_zero, List.set_cons_succ, i64_w, i32_w]
                    rfl
                  refine done_ (by kernel_rfl) ?_
                  go_wp2_with (fail)
                  have HGB := Aside0.mk (show 0 < ls.length → ∃ og, Ax = some ⟨og, 0, none⟩ ∧ GB w7 M M2 og ls.length from fun hn => by
                    obtain ⟨og, e1, _, _, e4⟩ := GB.of_R HRO.out hn HLL.out.2 (fun g h => h.2)
                    exact ⟨og, e1, e4⟩)
                  obtain ⟨gkb, hgkb⟩ : ∃ g, g = gk := ⟨_, rfl⟩
                  subst hgkb
                  go_loopg [120] ls.length (fun fu v120 wq => ∃ i : Nat, i + fu = ls.length ∧ v120 = .int .i64 (i : Int) ∧ Aside0 (0 < ls.length → ∃ og, Ax = some ⟨og, 0, none⟩ ∧ GB wq M M2 og ls.length) ∧ Aside0 (PS G2 k W wq b x (.pointer (some ⟨t, 0, none⟩)) (.pointer (some ⟨u, 0, none⟩)) (some z2) s2) ∧ Aside0 (Kd.R (Kd.int .u8) 5 wq k (fun g => k ≤ g ∧ g < M) (.slice A1' bs.length c1') bs))
                  case atStart => exact ⟨0, by omega, rfl, HGB, HPS2, HR⟩
                  case round =>
                    clear HGB HPS2 HR HRO HRL HRG HPS HM HT1 HD1 HW1 HTX
                    obtain ⟨i, hif, rfl, HGB, HPS2, HR⟩ := hrel
                    have HIF := Aside0.mk hif
                    by_cases hil : i < ls.length
                    · have e1 : decide ((i : Int) < (ls.length : Int)) = true := decide_eq_true (by omega)
                      obtain ⟨og, hAx, hG⟩ := HGB.out (by omega)
                      obtain ⟨cells, hc, hx⟩ := hG
                      obtain ⟨A9, m9, c9, h1, h2, h3⟩ := hx i hil
                      have hcl : wr.cell? ⟨og, i, none⟩ = some (.slice A9 m9 c9) := (blk_cell hc i).trans h1
                      have HG9 := Aside0.mk (show 0 < ls.length → ∃ og, Ax = some ⟨og, 0, none⟩ ∧ GB wr M M2 og ls.length from HGB.out)
                      have HB9 := Aside0.mk h3
                      have HM9 := Aside0.mk h2
                      have HIL := Aside0.mk hil
                      have hi0 : (0 : Int) ≤ (i : Int) := by omega
                      have hi1 : (i : Int) < (ls.length : Int) := by omega
                      have HWI := Aside0.mk (show wrap64 ((i : Int) + 1) = ((i + 1 : Nat) : Int) by have := HLL.out.1; unfold wrap64; omega)
                      clear hc hx h1 h2 h3 hif hil HGB
                      subst hAx
                      go_wp2_with (fail)
                      obtain ⟨w8, hw8⟩ : ∃ w8, w8 = wr := ⟨_, rfl⟩
                      subst hw8
                      obtain ⟨gkc, hgkc⟩ : ∃ g, g = gk := ⟨_, rfl⟩
                      subst hgkc
                      clear hcl
                      go_loopg [126] m9 (fun fu v126 wq => ∃ q : Nat, q + fu = m9 ∧ v126 = .int .i64 (q : Int) ∧ Aside0 (0 < ls.length → ∃ og', (some (⟨og, 0, none⟩ : Addr)) = some ⟨og', 0, none⟩ ∧ GB wq M M2 og' ls.length) ∧ Aside0 (0 < m9 → ∃ g, A9 = some ⟨g, 0, none⟩ ∧ M ≤ g ∧ g < M2 ∧ BCell wq g m9) ∧ Aside0 (PS G2 k W wq b x (.pointer (some ⟨t, 0, none⟩)) (.pointer (some ⟨u, 0, none⟩)) (some z2) s2) ∧ Aside0 (Kd.R (Kd.int .u8) 5 wq k (fun g => k ≤ g ∧ g < M) (.slice A1' bs.length c1') bs))
                      case atStart => exact ⟨0, by omega, rfl, HG9, HB9, HPS2, HR⟩
                      case round =>
                        clear HG9 HB9 HPS2 HR
                        obtain ⟨q, hqf, rfl, HG9, HB9, HPS2, HR⟩ := hrel
                        have HQF := Aside0.mk hqf
                        by_cases hqq : q < m9
                        · have e2 : decide ((q : Int) < (m9 : Int)) = true := decide_eq_true (by omega)
                          obtain ⟨g9, hA9, hg1, hg2, hb9⟩ := HB9.out (by omega)
                          subst hA9
                          obtain ⟨⟨x9, hx9⟩, hf9⟩ := hb9.cell hqq
                          have HBC := Aside0.mk hb9
                          have HGG := Aside0.mk (And.intro hg1 hg2)
                          have HQQ := Aside0.mk hqq
                          have hj0 : (0 : Int) ≤ (q : Int) := by omega
                          have hj1 : (q : Int) < (m9 : Int) := by omega
                          have HWQ := Aside0.mk (show wrap64 ((q : Int) + 1) = ((q + 1 : Nat) : Int) by have := HM9.out; unfold wrap64; omega)
                          clear hb9 hg1 hg2 hqf hqq HB9
                          go_wp2_with (fail)
                          rw [HWQ.out]
                          go_roundg (gk - 1)
                          case rel => exact ⟨q + 1, by have := HQF.out; have := HQQ.out; omega, rfl, ⟨fun hn => by obtain ⟨og', e1, e2⟩ := HG9.out hn; exact ⟨og', e1, e2.put HBC.out _ _⟩⟩, ⟨fun _ => ⟨g9, rfl, HGG.out.1, HGG.out.2, HBC.out.put _ _ _⟩⟩, ⟨HPS2.out.put (HGM2.out g9 (by have := HGG.out.1; have := HKM.out; omega) HGG.out.2) (by have := HGG.out.1; have := HKM.out; omega) _ _⟩, ⟨row_far HR.out (Ws.of_set _ (P := fun b_ => b_ = g9) rfl _ _) (fun g_ hg => by have := HGG.out.1; omega)⟩⟩
                          case measure => have := HQF.out; have := HQQ.out; omega
                        · obtain rfl : q = m9 := by omega
                          have e2 : decide ((q : Int) < (q : Int)) = false := decide_eq_false (by omega)
                          clear hqf hqq
                          go_wp2_with (fail)
                          rw [HWI.out]
                          go_roundg (gkc - 1)
                          case rel => exact ⟨i + 1, by have := HIF.out; have := HIL.out; omega, rfl, HG9, HPS2, HR⟩
                          case measure => have := HIF.out; have := HIL.out; omega
                    · obtain rfl : i = ls.length := by omega
                      have e1 : decide ((ls.length : Int) < (ls.length : Int)) = false := decide_eq_false (by omega)
                      clear hif hil
                      go_wp2_with (fail)
                      go_meet
                      exact ⟨G2, z2, s2, _, rfl, rfl, HOK2, HBS2, HRM2, HZ2, HPS2, HR, ⟨fun g q1 q2 => HGM2.out g q1 (by have := HMM.out; omega)⟩⟩
            have d3 : (O == (5 : Int)) = false := by simpa using c5
            have d4 : decide (O = (5 : Int)) = false := decide_eq_false c5
            clear c5
            have HKD := Aside0.mk (blk_drew HK5.out)
            have HWD := Aside0.mk (below_drew1 HW5.out)
            have HPSD := Aside0.mk (HPS5.out.below (below_drew1 (Below.refl _ _)))
            have HRD := Aside0.mk (Kd.R_below HR0.out (below_drew1 (Below.refl w5.heap.size w5)))
            clear HPS5 HR0
            have HPS := HPSD
            have HR := HRD
            clear HPSD HRD
            by_cases c6 : O = 6
            · have d5 : (O == (6 : Int)) = true := by simpa using c6
              have d6 : decide (O = (6 : Int)) = true := decide_eq_true c6
              clear c6
              obtain ⟨⟨s2, er⟩, hpu⟩ : ∃ q, crashP s ks = q := ⟨_, rfl⟩
              have HPU := Aside0.mk hpu
              have HOK2 := Aside0.mk (show Okk s2 by have := HOK.out.crash ks; rw [hpu] at this; exact this)
              have HBS2 := Aside0.mk (show BsD s2 by have := HBS.out.crash ks; rw [hpu] at this; exact this)
              have HRM2 := Aside0.mk (show s2.room ≠ 0 by have := crash_room s ks; rw [hpu] at this; rw [this]; exact HRM.out)
              have HZ2 := Aside0.mk (show Zok z (5000000 + (j + 1)) from HZZ.out.mono (by omega))
              clear hpu
              go_wp2_with (fail)
              refine start_ (n := 10) (S := fun w' => w'.heap[k]? = some (.cells #[.int .i64 op, .int .i64 n, .slice A bs.length ca, .slice A3 ls.length c3, .slice B ks.length cb] 79 (0, 0)) ∧ Below W.heap.size W w') (ds := []) #[false, false, false, false, false, false, false, false, false, false] (by kernel_rfl) rfl rfl ⟨HKD.out, HWD.out⟩ (fun hHeld => ?_)
              refine pure_ (i := 0) (N := some 139) (v := ?_) (a' := ?_) #[true, false, false, false, false, false, false, false, false, false] rfl rfl (by kernel_rfl) (fun _ _ _ h => h) (Or.inl ⟨by rfl, ?_⟩) ?_ ?_
              rotate_left
              · intro w'
                go_simp
                with_reducible rfl
              rotate_left
              · simp only [Act.put, List.setIfInBounds_toArray, List.set_cons_zero, List.set_cons_succ, i64_w, i32_w]
                rfl
              refine pure_ (i := 1) (N := some 140) (v := ?_) (a' := ?_) #[true, true, false, false, false, false, false, false, false, false] rfl rfl (by kernel_rfl) (fun _ _ _ h => h) (Or.inl ⟨by rfl, ?_⟩) ?_ ?_
              rotate_left
              · intro w'
                go_simp
                with_reducible rfl
              rotate_left
              · simp only [Act.put, List.setIfInBounds_toArray, List.set_cons_zero, List.set_cons_succ, i64_w, i32_w]
                rfl
              refine pure_ (i := 4) (N := some 143) (v := ?_) (a' := ?_) #[true, true, false, false, true, false, false, false, false, false] rfl rfl (by kernel_rfl) (fun _ _ _ h => h) (Or.inl ⟨by rfl, ?_⟩) ?_ ?_
              rotate_left
              · intro w'
                go_simp
                with_reducible rfl
              rotate_left
              · simp only [Act.put, List.setIfInBounds_toArray, List.set_cons_zero, List.set_cons_succ, i64_w, i32_w]
                rfl
              refine pure_ (i := 5) (N := some 144) (v := ?_) (a' := ?_) #[true, true, false, false, true, true, false, false, false, false] rfl rfl (by kernel_rfl) (fun _ _ _ h => h) (Or.inl ⟨by rfl, ?_⟩) ?_ ?_
              rotate_left
              · intro w'
                go_simp
                with_reducible rfl
              rotate_left
              · simp only [Act.put, List.setIfInBounds_toArray, List.set_cons_zero, List.set_cons_succ, i64_w, i32_w]
                rfl
              refine take_ (i := 2) (N := some 141) (v := ?_) (a' := ?_) #[true, true, true, false, true, true, false, false, false, false] rfl rfl (by kernel_rfl) (fun _ _ _ h => h) (Or.inl ⟨by rfl, ?_⟩) hHeld ?_ ?_
              rotate_left
              · rintro w' ⟨s0, s1⟩
                have d2_ := (blk_cell s0 4).trans (show _ = some (Value.slice B ks.length cb) from rfl)
                go_simp
                with_reducible rfl
              rotate_left
              · simp only [Act.put, List.setIfInBounds_toArray, List.set_cons_zero, List.set_cons_succ, i64_w, i32_w]
                rfl
              refine take_ (i := 6) (N := some 145) (v := ?_) (a' := ?_) #[true, true, true, false, true, true, true, false, false, false] rfl rfl (by kernel_rfl) (fun _ _ _ h => h) (Or.inl ⟨by rfl, ?_⟩) hHeld ?_ ?_
              rotate_left
              · rintro w' ⟨s0, s1⟩
                have d2_ := (blk_cell s0 4).trans (show _ = some (Value.slice B ks.length cb) from rfl)
                go_simp
                with_reducible rfl
              rotate_left
              · simp only [Act.put, List.setIfInBounds_toArray, List.set_cons_zero, List.set_cons_succ, i64_w, i32_w]
                rfl
              refine one_ (i := 3) (N := some 142) #[true, true, true, true, true, true, true, false, false, false] rfl rfl (by kernel_rfl) (by decide) (fun K hK => ?_)
              refine goes_ Try.func47 (by kernel_rfl) rfl #[.pointer (some ⟨b, 0, none⟩), .slice B ks.length cb] (by rfl) rfl rfl (by first | rfl | (simp; done) | (simp only [List.map_toArray, List.map_cons, List.map_nil]; rfl)) ?_
              with_reducible refine (Crash_calls G1 b s _ ks _ HPS.out.dd HOK.out ((Rw.came (G := fun b_ => b_ = b) HCK.out.2 HCK.out.1 (fun k_ e => e ▸ HPS.out.gw _ HPS.out.dd.gg)).below hHeld.2) HSK.out).mono ?_
              rw [HPU.out]
              rintro e w6 ⟨rfl, hD, hW⟩
              refine ⟨_, rfl, ?_⟩
              have HD1 := Aside0.mk hD
              have HW1 := Aside0.mk hW
              have HX1 := Aside0.mk (IsX.other HPS.out.xx hW HPS.out.dd.gg (fun e => HPS.out.dy e.symm))
              have n0_ := Aside0.mk (row_keep HR.out (Ws.of_wr (P := fun b_ => b_ = b) hW rfl) (fun g_ hg => by have := HLT.out; omega))
              clear HR
              have HR := n0_
              clear n0_
              refine hK.out _ _ ⟨(hW.block k (blk_lt hHeld.1) (by have := HLT.out; omega)).trans hHeld.1, hW.below hHeld.2 (HPS.out.gw _ HPS.out.dd.gg)⟩ (fun hHeld => ?_)
              clear hK K
              refine norm_ (a' := ?_) ?_ ?_
              rotate_left
              · show Act.put _ (some 142) _ = _
                simp only [Act.put, List.setIfInBounds_toArray, List.set_cons_zero, List.set_cons_succ, i64_w, i32_w]
                rfl
              refine one_ (i := 7) (N := some 146) #[true, true, true, true, true, true, true, true, false, false] rfl rfl (by kernel_rfl) (by decide) (fun K hK => ?_)
              refine goes_ Try.func50 (by kernel_rfl) rfl #[.pointer (some ⟨x, 0, none⟩), .slice B ks.length cb] (by rfl) rfl rfl (by first | rfl | (simp; done) | (simp only [List.map_toArray, List.map_cons, List.map_nil]; rfl)) ?_
              with_reducible refine (RCrash_calls G1 x s _ ks _ HX1.out HOK.out HRM.out ((Rw.came (G := fun b_ => b_ = x) HCK.out.2 HCK.out.1 (fun k_ e => e ▸ HPS.out.gw _ HPS.out.xx.gg)).below hHeld.2) HSK.out).mono ?_
              rw [HPU.out]
              rintro e w7 ⟨rfl, hD, hW⟩
              refine ⟨_, rfl, ?_⟩
              have HPS2 := Aside0.mk (PS.disks HPS.out HD1.out HW1.out hD hW)
              have n0_ := Aside0.mk (row_keep HR.out (Ws.of_wr (P := fun b_ => b_ = x) hW rfl) (fun g_ hg => by have := HLT.out; omega))
              clear HR
              have HR := n0_
              clear n0_
              refine hK.out _ _ ⟨(hW.block k (blk_lt hHeld.1) (by have := HLT.out; omega)).trans hHeld.1, hW.below hHeld.2 (HPS.out.gw _ HPS.out.xx.gg)⟩ (fun hHeld => ?_)
              clear hK K
              refine norm_ (a' := ?_) ?_ ?_
              rotate_left
              · show Act.put _ (some 146) _ = _
                simp only [Act.put, List.setIfInBounds_toArray, List.set_cons_zero, List.set_cons_succ, i64_w, i32_w]
                rfl
              refine pure_ (i := 8) (N := some 10) (v := ?_) (a' := ?_) #[true, true, true, true, true, true, true, true, true, false] rfl rfl (by kernel_rfl) (fun _ _ _ h => h) (Or.inl ⟨by rfl, ?_⟩) ?_ ?_
              rotate_left
              · intro w'
                go_simp
                with_reducible rfl
              rotate_left
              · simp only [Act.put, List.setIfInBounds_toArray, List.set_cons_zero, List.set_cons_succ, i64_w, i32_w]
                rfl
              refine pure_ (i := 9) (N := some 12) (v := ?_) (a' := ?_) #[true, true, true, true, true, true, true, true, true, true] rfl rfl (by kernel_rfl) (fun _ _ _ h => h) (Or.inl ⟨by rfl, ?_⟩) ?_ ?_
              rotate_left
              · intro w'
                go_simp
                with_reducible rfl
              rotate_left
              · simp only [Act.put, List.setIfInBounds_toArray, List.set_cons_zero, List.set_cons_succ, i64_w, i32_w]
                rfl
              refine done_ (by kernel_rfl) ?_
              go_wp2_with (fail)
              go_meet
              exact ⟨G1, z, s2, _, rfl, rfl, HOK2, HBS2, HRM2, HZ2, HPS2, HR, HGM⟩
            have d5 : (O == (6 : Int)) = false := by simpa using c6
            have d6 : decide (O = (6 : Int)) = false := decide_eq_false c6
            clear c6
            by_cases c7 : O = 7
            · have d7 : (O == (7 : Int)) = true := by simpa using c7
              have d8 : decide (O = (7 : Int)) = true := decide_eq_true c7
              clear c7
              obtain ⟨⟨s2, er⟩, hpu⟩ : ∃ q, armP s n ks = q := ⟨_, rfl⟩
              have HPU := Aside0.mk hpu
              have HOK2 := Aside0.mk (show Okk s2 by have := HOK.out.arm n ks HSN.out.2 HSK.out (by have := HKLN.out; omega); rw [hpu] at this; exact this)
              have HBS2 := Aside0.mk (show BsD s2 by have := HBS.out.arm n ks; rw [hpu] at this; exact this)
              have HRM2 := Aside0.mk (show s2.room ≠ 0 by have := arm_room s n ks; rw [hpu] at this; rw [this]; exact HRM.out)
              have HZ2 := Aside0.mk (show Zok z (5000000 + (j + 1)) from HZZ.out.mono (by omega))
              clear hpu
              go_wp2_with (fail)
              refine start_ (n := 14) (S := fun w' => w'.heap[k]? = some (.cells #[.int .i64 op, .int .i64 n, .slice A bs.length ca, .slice A3 ls.length c3, .slice B ks.length cb] 79 (0, 0)) ∧ Below W.heap.size W w') (ds := []) #[false, false, false, false, false, false, false, false, false, false, false, false, false, false] (by kernel_rfl) rfl rfl ⟨HKD.out, HWD.out⟩ (fun hHeld => ?_)
              refine pure_ (i := 0) (N := some 149) (v := ?_) (a' := ?_) #[true, false, false, false, false, false, false, false, false, false, false, false, false, false] rfl rfl (by kernel_rfl) (fun _ _ _ h => h) (Or.inl ⟨by rfl, ?_⟩) ?_ ?_
              rotate_left
              · intro w'
                go_simp
                with_reducible rfl
              rotate_left
              · simp only [Act.put, List.setIfInBounds_toArray, List.set_cons_zero, List.set_cons_succ, i64_w, i32_w]
                rfl
              refine pure_ (i := 1) (N := some 150) (v := ?_) (a' := ?_) #[true, true, false, false, false, false, false, false, false, false, false, false, false, false] rfl rfl (by kernel_rfl) (fun _ _ _ h => h) (Or.inl ⟨by rfl, ?_⟩) ?_ ?_
              rotate_left
              · intro w'
                go_simp
                with_reducible rfl
              rotate_left
              · simp only [Act.put, List.setIfInBounds_toArray, List.set_cons_zero, List.set_cons_succ, i64_w, i32_w]
                rfl
              refine pure_ (i := 3) (N := some 152) (v := ?_) (a' := ?_) #[true, true, false, true, false, false, false, false, false, false, false, false, false, false] rfl rfl (by kernel_rfl) (fun _ _ _ h => h) (Or.inl ⟨by rfl, ?_⟩) ?_ ?_
              rotate_left
              · intro w'
                go_simp
                with_reducible rfl
              rotate_left
              · simp only [Act.put, List.setIfInBounds_toArray, List.set_cons_zero, List.set_cons_succ, i64_w, i32_w]
                rfl
              refine pure_ (i := 6) (N := some 155) (v := ?_) (a' := ?_) #[true, true, false, true, false, false, true, false, false, false, false, false, false, false] rfl rfl (by kernel_rfl) (fun _ _ _ h => h) (Or.inl ⟨by rfl, ?_⟩) ?_ ?_
              rotate_left
              · intro w'
                go_simp
                with_reducible rfl
              rotate_left
              · simp only [Act.put, List.setIfInBounds_toArray, List.set_cons_zero, List.set_cons_succ, i64_w, i32_w]
                rfl
              refine pure_ (i := 7) (N := some 156) (v := ?_) (a' := ?_) #[true, true, false, true, false, false, true, true, false, false, false, false, false, false] rfl rfl (by kernel_rfl) (fun _ _ _ h => h) (Or.inl ⟨by rfl, ?_⟩) ?_ ?_
              rotate_left
              · intro w'
                go_simp
                with_reducible rfl
              rotate_left
              · simp only [Act.put, List.setIfInBounds_toArray, List.set_cons_zero, List.set_cons_succ, i64_w, i32_w]
                rfl
              refine pure_ (i := 9) (N := some 158) (v := ?_) (a' := ?_) #[true, true, false, true, false, false, true, true, false, true, false, false, false, false] rfl rfl (by kernel_rfl) (fun _ _ _ h => h) (Or.inl ⟨by rfl, ?_⟩) ?_ ?_
              rotate_left
              · intro w'
                go_simp
                with_reducible rfl
              rotate_left
              · simp only [Act.put, List.setIfInBounds_toArray, List.set_cons_zero, List.set_cons_succ, i64_w, i32_w]
                rfl
              refine take_ (i := 2) (N := some 151) (v := ?_) (a' := ?_) #[true, true, true, true, false, false, true, true, false, true, false, false, false, false] rfl rfl (by kernel_rfl) (fun _ _ _ h => h) (Or.inl ⟨by rfl, ?_⟩) hHeld ?_ ?_
              rotate_left
              · rintro w' ⟨s0, s1⟩
                have d2_ := (blk_cell s0 1).trans (show _ = some (Value.int .i64 n) from rfl)
                go_simp
                with_reducible rfl
              rotate_left
              · simp only [Act.put, List.setIfInBounds_toArray, List.set_cons_zero, List.set_cons_succ, i64_w, i32_w]
                rfl
              refine take_ (i := 4) (N := some 153) (v := ?_) (a' := ?_) #[true, true, true, true, true, false, true, true, false, true, false, false, false, false] rfl rfl (by kernel_rfl) (fun _ _ _ h => h) (Or.inl ⟨by rfl, ?_⟩) hHeld ?_ ?_
              rotate_left
              · rintro w' ⟨s0, s1⟩
                have d2_ := (blk_cell s0 4).trans (show _ = some (Value.slice B ks.length cb) from rfl)
                go_simp
                with_reducible rfl
              rotate_left
              · simp only [Act.put, List.setIfInBounds_toArray, List.set_cons_zero, List.set_cons_succ, i64_w, i32_w]
                rfl
              refine take_ (i := 8) (N := some 157) (v := ?_) (a' := ?_) #[true, true, true, true, true, false, true, true, true, true, false, false, false, false] rfl rfl (by kernel_rfl) (fun _ _ _ h => h) (Or.inl ⟨by rfl, ?_⟩) hHeld ?_ ?_
              rotate_left
              · rintro w' ⟨s0, s1⟩
                have d2_ := (blk_cell s0 1).trans (show _ = some (Value.int .i64 n) from rfl)
                go_simp
                with_reducible rfl
              rotate_left
              · simp only [Act.put, List.setIfInBounds_toArray, List.set_cons_zero, List.set_cons_succ, i64_w, i32_w]
                rfl
              refine take_ (i := 10) (N := some 159) (v := ?_) (a' := ?_) #[true, true, true, true, true, false, true, true, true, true, true, false, false, false] rfl rfl (by kernel_rfl) (fun _ _ _ h => h) (Or.inl ⟨by rfl, ?_⟩) hHeld ?_ ?_
              rotate_left
              · rintro w' ⟨s0, s1⟩
                have d2_ := (blk_cell s0 4).trans (show _ = some (Value.slice B ks.length cb) from rfl)
                go_simp
                with_reducible rfl
              rotate_left
              · simp only [Act.put, List.setIfInBounds_toArray, List.set_cons_zero, List.set_cons_succ, i64_w, i32_w]
                rfl
              refine one_ (i := 5) (N := some 154) #[true, true, true, true, true, true, true, true, true, true, true, false, false, false] rfl rfl (by kernel_rfl) (by decide) (fun K hK => ?_)
              refine goes_ Try.func42 (by kernel_rfl) rfl #[.pointer (some ⟨b, 0, none⟩), .int .i64 n, .slice B ks.length cb] (by rfl) rfl rfl (by first | rfl | (simp; done) | (simp only [List.map_toArray, List.map_cons, List.map_nil]; rfl)) ?_
              with_reducible refine (Arm_calls G1 b s n _ ks _ HPS.out.dd HOK.out ((Rw.came (G := fun b_ => b_ = b) HCK.out.2 HCK.out.1 (fun k_ e => e ▸ HPS.out.gw _ HPS.out.dd.gg)).below hHeld.2) (by have := HKLN.out; omega)).mono ?_
              rw [HPU.out]
              rintro e w6 ⟨rfl, hD, hW⟩
              refine ⟨_, rfl, ?_⟩
              have HD1 := Aside0.mk hD
              have HW1 := Aside0.mk hW
              have HX1 := Aside0.mk (IsX.other HPS.out.xx hW HPS.out.dd.gg (fun e => HPS.out.dy e.symm))
              have n0_ := Aside0.mk (row_keep HR.out (Ws.of_wr (P := fun b_ => b_ = b) hW rfl) (fun g_ hg => by have := HLT.out; omega))
              clear HR
              have HR := n0_
              clear n0_
              refine hK.out _ _ ⟨(hW.block k (blk_lt hHeld.1) (by have := HLT.out; omega)).trans hHeld.1, hW.below hHeld.2 (HPS.out.gw _ HPS.out.dd.gg)⟩ (fun hHeld => ?_)
              clear hK K
              refine norm_ (a' := ?_) ?_ ?_
              rotate_left
              · show Act.put _ (some 154) _ = _
                simp only [Act.put, List.setIfInBounds_toArray, List.set_cons_zero, List.set_cons_succ, i64_w, i32_w]
                rfl
              refine one_ (i := 11) (N := some 160) #[true, true, true, true, true, true, true, true, true, true, true, true, false, false] rfl rfl (by kernel_rfl) (by decide) (fun K hK => ?_)
              refine goes_ Try.func51 (by kernel_rfl) rfl #[.pointer (some ⟨x, 0, none⟩), .int .i64 n, .slice B ks.length cb] (by rfl) rfl rfl (by first | rfl | (simp; done) | (simp only [List.map_toArray, List.map_cons, List.map_nil]; rfl)) ?_
              with_reducible refine (RArm_calls G1 x s n _ ks _ HX1.out HOK.out HRM.out ((Rw.came (G := fun b_ => b_ = x) HCK.out.2 HCK.out.1 (fun k_ e => e ▸ HPS.out.gw _ HPS.out.xx.gg)).below hHeld.2) (by have := HKLN.out; omega)).mono ?_
              rw [HPU.out]
              rintro e w7 ⟨rfl, hD, hW⟩
              refine ⟨_, rfl, ?_⟩
              have HPS2 := Aside0.mk (PS.disks HPS.out HD1.out HW1.out hD hW)
              have n0_ := Aside0.mk (row_keep HR.out (Ws.of_wr (P := fun b_ => b_ = x) hW rfl) (fun g_ hg => by have := HLT.out; omega))
              clear HR
              have HR := n0_
              clear n0_
              refine hK.out _ _ ⟨(hW.block k (blk_lt hHeld.1) (by have := HLT.out; omega)).trans hHeld.1, hW.below hHeld.2 (HPS.out.gw _ HPS.out.xx.gg)⟩ (fun hHeld => ?_)
              clear hK K
              refine norm_ (a' := ?_) ?_ ?_
              rotate_left
              · show Act.put _ (some 160) _ = _
                simp only [Act.put, List.setIfInBounds_toArray, List.set_cons_zero, List.set_cons_succ, i64_w, i32_w]
                rfl
              refine pure_ (i := 12) (N := some 10) (v := ?_) (a' := ?_) #[true, true, true, true, true, true, true, true, true, true, true, true, true, false] rfl rfl (by kernel_rfl) (fun _ _ _ h => h) (Or.inl ⟨by rfl, ?_⟩) ?_ ?_
              rotate_left
              · intro w'
                go_simp
                with_reducible rfl
              rotate_left
              · simp only [Act.put, List.setIfInBounds_toArray, List.set_cons_zero, List.set_cons_succ, i64_w, i32_w]
                rfl
              refine pure_ (i := 13) (N := some 12) (v := ?_) (a' := ?_) #[true, true, true, true, true, true, true, true, true, true, true, true, true, true] rfl rfl (by kernel_rfl) (fun _ _ _ h => h) (Or.inl ⟨by rfl, ?_⟩) ?_ ?_
              rotate_left
              · intro w'
                go_simp
                with_reducible rfl
              rotate_left
              · simp only [Act.put, List.setIfInBounds_toArray, List.set_cons_zero, List.set_cons_succ, i64_w, i32_w]
                rfl
              refine done_ (by kernel_rfl) ?_
              go_wp2_with (fail)
              go_meet
              exact ⟨G1, z, s2, _, rfl, rfl, HOK2, HBS2, HRM2, HZ2, HPS2, HR, HGM⟩
            · have d7 : (O == (7 : Int)) = false := by simpa using c7
              have d8 : decide (O = (7 : Int)) = false := decide_eq_false c7
              clear c7
              obtain ⟨⟨z2, s2, er⟩, hpu⟩ : ∃ q, putP z s bs = q := ⟨_, rfl⟩
              have HPU := Aside0.mk hpu
              have HOK2 := Aside0.mk (show Okk s2 by have := putP_okk HOK.out z bs; rw [hpu] at this; exact this)
              have HBS2 := Aside0.mk (show BsD s2 by have := putP_bsd HBS.out z HSB.out; rw [hpu] at this; exact this)
              have HRM2 := Aside0.mk (show s2.room ≠ 0 by have := putP_room z s bs; rw [hpu] at this; rw [this]; exact HRM.out)
              have HZ2 := Aside0.mk (show Zok z2 (5000000 + (j + 1)) by have := HZZ.out.put s bs; rw [hpu] at this; exact this.mono (by omega))
              clear hpu
              have HRG := Aside0.mk (row_rw HR.out (P := TG t b) (fun g_ hg => by have := HLT.out; unfold TG at hg; omega))
              go_wp2_with (fail)
              refine start_ (n := 10) (S := fun w' => w'.heap[k]? = some (.cells #[.int .i64 op, .int .i64 n, .slice A bs.length ca, .slice A3 ls.length c3, .slice B ks.length cb] 79 (0, 0)) ∧ Below W.heap.size W w') (ds := []) #[false, false, false, false, false, false, false, false, false, false] (by kernel_rfl) rfl rfl ⟨HKD.out, HWD.out⟩ (fun hHeld => ?_)
              refine pure_ (i := 0) (N := some 77) (v := ?_) (a' := ?_) #[true, false, false, false, false, false, false, false, false, false] rfl rfl (by kernel_rfl) (fun _ _ _ h => h) (Or.inl ⟨by rfl, ?_⟩) ?_ ?_
              rotate_left
              · intro w'
                go_simp
                with_reducible rfl
              rotate_left
              · simp only [Act.put, List.setIfInBounds_toArray, List.set_cons_zero, List.set_cons_succ, i64_w, i32_w]
                rfl
              refine pure_ (i := 1) (N := some 78) (v := ?_) (a' := ?_) #[true, true, false, false, false, false, false, false, false, false] rfl rfl (by kernel_rfl) (fun _ _ _ h => h) (Or.inl ⟨by rfl, ?_⟩) ?_ ?_
              rotate_left
              · intro w'
                go_simp
                with_reducible rfl
              rotate_left
              · simp only [Act.put, List.setIfInBounds_toArray, List.set_cons_zero, List.set_cons_succ, i64_w, i32_w]
                rfl
              refine pure_ (i := 3) (N := some 80) (v := ?_) (a' := ?_) #[true, true, false, true, false, false, false, false, false, false] rfl rfl (by kernel_rfl) (fun _ _ _ h => h) (Or.inl ⟨by rfl, ?_⟩) ?_ ?_
              rotate_left
              · intro w'
                go_simp
                with_reducible rfl
              rotate_left
              · simp only [Act.put, List.setIfInBounds_toArray, List.set_cons_zero, List.set_cons_succ, i64_w, i32_w]
                rfl
              refine pure_ (i := 4) (N := some 81) (v := ?_) (a' := ?_) #[true, true, false, true, true, false, false, false, false, false] rfl rfl (by kernel_rfl) (fun _ _ _ h => h) (Or.inl ⟨by rfl, ?_⟩) ?_ ?_
              rotate_left
              · intro w'
                go_simp
                with_reducible rfl
              rotate_left
              · simp only [Act.put, List.setIfInBounds_toArray, List.set_cons_zero, List.set_cons_succ, i64_w, i32_w]
                rfl
              refine take_ (i := 5) (N := some 82) (v := ?_) (a' := ?_) #[true, true, false, true, true, true, false, false, false, false] rfl rfl (by kernel_rfl) (fun _ _ _ h => h) (Or.inl ⟨by rfl, ?_⟩) hHeld ?_ ?_
              rotate_left
              · rintro w' ⟨s0, s1⟩
                have d2_ := (blk_cell s0 2).trans (show _ = some (Value.slice A bs.length ca) from rfl)
                go_simp
                with_reducible rfl
              rotate_left
              · simp only [Act.put, List.setIfInBounds_toArray, List.set_cons_zero, List.set_cons_succ, i64_w, i32_w]
                rfl
              refine take_ (i := 6) (N := some 83) (v := ?_) (a' := ?_) #[true, true, false, true, true, true, true, false, false, false] rfl rfl (by kernel_rfl) (fun _ _ _ h => h) (Or.inl ⟨by rfl, ?_⟩) hHeld ?_ ?_
              rotate_left
              · rintro w' ⟨s0, s1⟩
                have hk_ := Kd.C_string (P := Try.prog) (A := A) (c := ca) Try.underlying32 Try.underlying5 Try.underlying9 (Kd.C_below HCB.out.2 s1)
                go_simp
                with_reducible rfl
              rotate_left
              · simp only [Act.put, List.setIfInBounds_toArray, List.set_cons_zero, List.set_cons_succ, i64_w, i32_w]
                rfl
              refine one_ (i := 2) (N := some 79) #[true, true, true, true, true, true, true, false, false, false] rfl rfl (by kernel_rfl) (by decide) (fun K hK => ?_)
              refine goes_ Try.func24 (by kernel_rfl) rfl #[.pointer (some ⟨t, 0, none⟩), .slice A1' bs.length c1'] (by rfl) rfl rfl (by first | rfl | (simp; done) | (simp only [List.map_toArray, List.map_cons, List.map_nil]; rfl)) ?_
              with_reducible refine (TPutT_calls G1 t b z s _ bs _ (PS.tt HPS.out).1 HPS.out.dd HOK.out HRG.out HSB.out (by have := HBLN.out; omega) (by have := HZZ.out.bnd.many; have := HJS.out; omega)).mono ?_
              rw [HPU.out]
              rintro e w6 ⟨rfl, hT, hD, hW⟩
              refine ⟨_, rfl, ?_⟩
              have HM := Aside0.mk (PS.mid HPS.out hW)
              have HT1 := Aside0.mk hT
              have HD1 := Aside0.mk hD
              have HW1 := Aside0.mk hW
              have n0_ := Aside0.mk (row_keep HR.out hW (fun g_ hg => by have := HLT.out; unfold TG at hg; omega))
              clear HR
              have HR := n0_
              clear n0_
              refine hK.out _ _ ⟨(hW.block k (blk_lt hHeld.1) (by have := HLT.out; unfold TG; omega)).trans hHeld.1, hW.below hHeld.2 (fun b_ hb => HLE.out.1 b_ hb)⟩ (fun hHeld => ?_)
              clear hK K
              refine norm_ (a' := ?_) ?_ ?_
              rotate_left
              · show Act.put _ (some 79) _ = _
                simp only [Act.put, List.setIfInBounds_toArray, List.set_cons_zero, List.set_cons_succ, i64_w, i32_w]
                rfl
              refine one_ (i := 7) (N := some 84) #[true, true, true, true, true, true, true, true, false, false] rfl rfl (by kernel_rfl) (by decide) (fun K hK => ?_)
              refine goes_ Try.func52 (by kernel_rfl) rfl #[.pointer (some ⟨u, 0, none⟩), .string (strOfNums bs)] (by rfl) rfl rfl (by first | rfl | (simp; done) | (simp only [List.map_toArray, List.map_cons, List.map_nil]; rfl)) ?_
              with_reducible refine (rTPut_calls G1 u x z s bs _ HM.out.1 HM.out.2 HOK.out HRM.out HSB.out (by have := HBLN.out; omega) (by have := HZZ.out.bnd.many; have := HJS.out; omega)).mono ?_
              rw [HPU.out]
              rintro e w7 ⟨rfl, hT, hD, hW⟩
              refine ⟨_, rfl, ?_⟩
              have HPS2 := Aside0.mk (PS.acts HPS.out HT1.out HD1.out HW1.out hT hD hW)
              have n0_ := Aside0.mk (row_keep HR.out hW (fun g_ hg => by have := HLT.out; unfold TG at hg; omega))
              clear HR
              have HR := n0_
              clear n0_
              refine hK.out _ _ ⟨(hW.block k (blk_lt hHeld.1) (by have := HLT.out; unfold TG; omega)).trans hHeld.1, hW.below hHeld.2 (fun b_ hb => HLE.out.2 b_ hb)⟩ (fun hHeld => ?_)
              clear hK K
              refine norm_ (a' := ?_) ?_ ?_
              rotate_left
              · show Act.put _ (some 84) _ = _
                simp only [Act.put, List.setIfInBounds_toArray, List.set_cons_zero, List.set_cons_succ, i64_w, i32_w]
                rfl
              refine pure_ (i := 8) (N := some 10) (v := ?_) (a' := ?_) #[true, true, true, true, true, true, true, true, true, false] rfl rfl (by kernel_rfl) (fun _ _ _ h => h) (Or.inl ⟨by rfl, ?_⟩) ?_ ?_
              rotate_left
              · intro w'
                go_simp
                with_reducible rfl
              rotate_left
              · simp only [Act.put, List.setIfInBounds_toArray, List.set_cons_zero, List.set_cons_succ, i64_w, i32_w]
                rfl
              refine pure_ (i := 9) (N := some 12) (v := ?_) (a' := ?_) #[true, true, true, true, true, true, true, true, true, true] rfl rfl (by kernel_rfl) (fun _ _ _ h => h) (Or.inl ⟨by rfl, ?_⟩) ?_ ?_
              rotate_left
              · intro w'
                go_simp
                with_reducible rfl
              rotate_left
              · simp only [Act.put, List.setIfInBounds_toArray, List.set_cons_zero, List.set_cons_succ, i64_w, i32_w]
                rfl
              refine done_ (by kernel_rfl) ?_
              go_wp2_with (fail)
              go_meet
              exact ⟨G1, z2, s2, _, rfl, rfl, HOK2, HBS2, HRM2, HZ2, HPS2, HR, HGM⟩
          case rest =>
            obtain ⟨G', z', s', er, rfl, rfl, HOK, HBS, HRM, HZ, HPS, HR, HGM⟩ := hcut
            have HGMK := HGM
            have de : (er != er) = false := by simp
            have HBL2 := Aside0.mk (show bs.length ≤ 9223372036854775807 by have := HBLN.out; omega)
            go_wp2_with (fail)
            go_loopg [163] bs.length (fun fu v163 wq => ∃ (q : Nat) (ys : List Int), q + fu = bs.length ∧ v163 = .int .i64 (q : Int) ∧ Aside0 (ys.length = bs.length) ∧ Aside0 (Kd.R (Kd.int .u8) 5 wq k (fun g => k ≤ g ∧ g < M) (.slice A1' bs.length c1') ys) ∧ Aside0 (PS G' k W wq b x (.pointer (some ⟨t, 0, none⟩)) (.pointer (some ⟨u, 0, none⟩)) (some z') s'))
            case atStart => exact ⟨0, bs, by omega, rfl, ⟨rfl⟩, HR, HPS⟩
            case round =>
              clear HR HPS
              obtain ⟨q, ys, hq, rfl, HYL, HR, HPS⟩ := hrel
              have HQF := Aside0.mk hq
              by_cases hqq : q < bs.length
              · have e1 : decide ((q : Int) < (bs.length : Int)) = true := decide_eq_true (by omega)
                obtain ⟨g, hA1, hg1, hg2, hg3, hcg, hfg, _, hput⟩ := row_put HR.out HYL.out q hqq
                subst hA1
                have HPUT := Aside0.mk hput
                have HGG := Aside0.mk (And.intro (HGM.out g hg1 hg3.2) hg1)
                have HQQ := Aside0.mk hqq
                have hi0 : (0 : Int) ≤ (q : Int) := by omega
                have hi1 : (q : Int) < (bs.length : Int) := by omega
                have HWQ := Aside0.mk (show wrap64 ((q : Int) + 1) = ((q + 1 : Nat) : Int) by have := HBLN.out; unfold wrap64; omega)
                clear hput hg1 hg2 hg3
                go_wp2_with (fail)
                rw [HWQ.out]
                go_roundg (gk - 1)
                case rel => exact ⟨q + 1, _, by have := HQF.out; have := HQQ.out; omega, rfl, ⟨(HPUT.out _).2⟩, ⟨(HPUT.out _).1⟩, ⟨HPS.out.put HGG.out.1 HGG.out.2 _ _⟩⟩
                case measure => have := HQF.out; have := HQQ.out; omega
              · obtain rfl : q = bs.length := by omega
                have e1 : decide ((bs.length : Int) < (bs.length : Int)) = false := decide_eq_false (by omega)
                have HWJ := Aside0.mk (show wrap64 ((j : Int) + 1) = ((j + 1 : Nat) : Int) by have := HJS.out; unfold wrap64; omega)
                have HPSB := Aside0.mk (HPS.out.bound (show k ≤ wr.heap.size by have h1 := HPS.out.db; have h2 := HKM.out; exact Nat.le_of_lt (HPS.out.dd.lt k (HGMK.out k (Nat.le_refl _) HKM.out))))
                obtain ⟨_, _, kv, hAX, _⟩ := HPS.out.xx
                have hc25 : wr.cell? ⟨x, 25, none⟩ = some (.bool s'.off) := hAX.c25
                have hf25 := hAX.frozen 25
                clear hqq hAX
                cases hoff : s'.off with
                | false =>
                  rw [hoff] at hc25
                  have HTL := Aside0.mk (tells_any HPSB.out (fun z e => by injection e with e; subst e; exact HZ.out.bnd) (by have := HJS.out; omega))
                  go_wp2_with (fail)
                  refine HTL.out.mono ?_
                  rintro e w7 ⟨rfl, hb⟩
                  have HPS7 := Aside0.mk ((HPSB.out.below hb).bound hb.size)
                  clear hb HTL hc25 hf25
                  go_wp2_with (fail)
                  refine (face_calls G' G' b x s' _ HPS7.out.dd HPS7.out.xx HOK.out HBS.out HRM.out).mono ?_
                  rintro e w8 ⟨rfl, hb⟩
                  have HPS8 := Aside0.mk ((HPS7.out.below hb).bound hb.size)
                  clear hb
                  go_wp2_with (fail)
                  rw [HWJ.out]
                  go_roundg (gko - 1)
                  case rel => exact ⟨j + 1, G', some z', s', by have := HJF.out; have := HJL.out; omega, rfl, HOK, HBS, HRM, ⟨fun z e => by injection e with e; subst e; exact HZ.out⟩, HPS8⟩
                  case measure => have := HJF.out; have := HJL.out; omega
                | true =>
                  rw [hoff] at hc25
                  have HST := Aside0.mk (Dk.start_eq HRM.out)
                  go_wp2_with (fail)
                  refine (Start_calls G' b s' _ HPSB.out.dd).mono ?_
                  rw [HST.out]
                  rintro e w7 ⟨rfl, hD, hW⟩
                  have HX7 := Aside0.mk (IsX.other HPSB.out.xx hW HPSB.out.dd.gg (fun e => HPSB.out.dy e.symm))
                  obtain ⟨_, _, kv7, hAX7, _⟩ := HX7.out
                  have hc25' : w7.cell? ⟨x, 25, none⟩ = some (.bool s'.off) := hAX7.c25
                  have hf25' := hAX7.frozen 25
                  have HPS7 := Aside0.mk (PS.disks (s' := { s' with off := false }) HPSB.out hD hW (IsX.on HX7.out) ((Wr.refl x w7).set 25 _))
                  have HPS7' := Aside0.mk (HPS7.out.bound (show wr.heap.size ≤ (w7.setCell ⟨x, 25, none⟩ (.bool false)).heap.size by rw [World.size_setCell]; exact hW.size))
                  have HOK7 := Aside0.mk (show Okk { s' with off := false } by have := HOK.out.start; rw [HST.out] at this; exact this)
                  have HBS7 := Aside0.mk (show BsD { s' with off := false } from HBS.out)
                  have HRM7 := Aside0.mk (show ({ s' with off := false } : DS).room ≠ 0 from HRM.out)
                  rw [hoff] at hc25'
                  clear hD hW HX7 hAX7 hc25 hf25 HPSB HPS HOK HBS HRM HZ HST
                  generalize ({ s' with off := false } : DS) = s0 at *
                  obtain ⟨⟨o, s, e0⟩, ho⟩ : ∃ q, openT s0 = q := ⟨_, rfl⟩
                  have HO := Aside0.mk ho
                  clear ho
                  go_wp2_with (fail)
                  refine (Open_calls G' b s0 _ HPS7.out.dd HOK7.out HBS7.out).mono ?_
                  rw [HO.out]
                  rintro e w8 ⟨p, rfl, hD5, hW5, hp⟩
                  go_wp2_with (fail)
                  refine (rOpen_calls _ x s0 _ (PS.openA HPS7.out hD5 hW5) HOK7.out HBS7.out HRM7.out).mono ?_
                  rw [HO.out]
                  rintro e w9 ⟨q, rfl, hX6, hW6, hq⟩
                  obtain ⟨G6, hP6⟩ := PS.openB HPS7.out hD5 hW5 hp hX6 hW6 hq
                  have HPS6 := Aside0.mk hP6
                  have HOK6 := Aside0.mk (show Okk s by have := openT_okk HOK7.out; rw [HO.out] at this; exact this)
                  have HBS6 := Aside0.mk (show BsD s by have := openT_bsd HOK7.out HBS7.out; rw [HO.out] at this; exact this)
                  have HRM6 := Aside0.mk (show s.room ≠ 0 by have := openT_room s0; rw [HO.out] at this; rw [this]; exact HRM7.out)
                  have HZ6 := Aside0.mk (show ∀ z, o = some z → Zok z (5000000 + (j + 1)) from fun z e => by subst e; exact (openT_zok HBS7.out HOK7.out.1 HO.out).mono (by omega))
                  have de2 : (e0 != e0) = false := by simp
                  clear hD5 hW5 hp hX6 hW6 hq hP6 HPS7 HOK7 HBS7 HRM7 HO
                  have HTL := Aside0.mk (tells_any HPS6.out (fun z e => (HZ6.out z e).bnd) (by have := HJS.out; omega))
                  go_wp2_with (fail)
                  refine HTL.out.mono ?_
                  rintro e w10 ⟨rfl, hb⟩
                  have HPS9 := Aside0.mk ((HPS6.out.below hb).bound hb.size)
                  clear hb HPS6 HTL
                  go_wp2_with (fail)
                  refine (face_calls G6 G6 b x s _ HPS9.out.dd HPS9.out.xx HOK6.out HBS6.out HRM6.out).mono ?_
                  rintro e w11 ⟨rfl, hb⟩
                  have HPS8 := Aside0.mk ((HPS9.out.below hb).bound hb.size)
                  clear hb
                  go_wp2_with (fail)
                  rw [HWJ.out]
                  go_roundg (gko - 1)
                  case rel => exact ⟨j + 1, G6, o, s, by have := HJF.out; have := HJL.out; omega, rfl, HOK6, HBS6, HRM6, HZ6, HPS8⟩
                  case measure => have := HJF.out; have := HJL.out; omega
      · obtain rfl : j = l1.length := by omega
        have e1 : decide ((l1.length : Int) < (l1.length : Int)) = false := decide_eq_false (by omega)
        go_wp2_with (fail)
        refine (Tp.awake_calls _).mono ?_
        rintro e w9 ⟨rfl, hb⟩
        have HB9 := Aside0.mk (below_step HPS.out.w hb)
        clear hb
        go_wp2_with (fail)
        go_ret
        exact ⟨rfl, HB9.out⟩
end Go.Proofs.Ytehjbhnlbjbhfaa.Wk
