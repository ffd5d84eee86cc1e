/- Contracts of the disk's Append, New and Clone. -/
import Derived.Test.YtehjbhnlbjbhfaaDkI
namespace Go.Proofs.Ytehjbhnlbjbhfaa.Dk
open Go Go.RowKit Go.Proofs.YtehjbhnlbjbhfaaW.PrintWords Go.Proofs.YtehjbhnlbjbhfaaW.PrintLast Go.Proofs.YtehjbhnlbjbhfaaW.PrintMore
open Go.Proofs.Ytehjbhnlbjbhfaa.PDiskBegins
attribute [local go_sem] max2_int min2_int max_two min_two
set_option linter.unusedVariables false
set_option linter.unusedSimpArgs false
abbrev B1 (w : World) (g : Nat) : World := w.alloc (.cells #[.pointer (some ⟨g, 0, none⟩)] 23)
abbrev B2 (w : World) (g : Nat) (i : Int) : World := (B1 w g).alloc (.cells #[.int .i64 i] 3)
abbrev B3 (w : World) (g : Nat) (i : Int) (v : Value) : World := (B2 w g i).alloc (.cells #[v] 32)
theorem box_cells (w : World) (g : Nat) (i : Int) (v : Value) : (B3 w g i v).cell? ⟨w.heap.size, 0, none⟩ = some (.pointer (some ⟨g, 0, none⟩)) ∧ (B3 w g i v).cell? ⟨w.heap.size + 1, 0, none⟩ = some (.int .i64 i) ∧ (B3 w g i v).cell? ⟨w.heap.size + 2, 0, none⟩ = some v ∧ (B3 w g i v).heap.size = w.heap.size + 3 := by
  have e1 : (B1 w g).heap.size = w.heap.size + 1 := by simp [B1]
  have e2 : (B2 w g i).heap.size = w.heap.size + 2 := by simp [B2, B1]
  have h2 := blk_new (B1 w g) (.cells #[.int .i64 i] 3)
  have h3 := blk_new (B2 w g i) (.cells #[v] 32)
  rw [e1] at h2
  rw [e2] at h3
  exact ⟨(blk_cell (blk_alloc (blk_alloc (blk_new w _) _) _) 0).trans rfl, (blk_cell (blk_alloc h2 _) 0).trans rfl, (blk_cell h3 0).trans rfl, by simp [B3, B2, B1]⟩
set_option maxHeartbeats 8000000 in
set_option maxRecDepth 100000 in
theorem Append_calls (G : Nat → Prop) (g : Nat) (s : DS) (i : Int) (bV : Value) (bs : List Int) (w : World) (h : IsD G w g s) (hok : Okk s) (hbv : Rw (fun b => b = g) .u8 w bV bs) (hbl : bs.length < 1000000000) : Calls Try.prog 32 #[.pointer (some ⟨g, 0, none⟩), .int .i64 i, bV] w fun e w' => e = .returned (.int .i64 (appendP s i bs).2) ∧ IsD G w' g (appendP s i bs).1 ∧ Wr g w w' := by
  have H := Aside0.mk h
  have HOK := Aside0.mk hok
  have HOK1 := Aside0.mk hok.1
  have HG := Aside0.mk h.ltg
  have HBV := Aside0.mk hbv
  have HBL := Aside0.mk hbl
  obtain ⟨B, cb, rfl, hcb, _⟩ := hbv.slice
  have HCB := Aside0.mk hcb
  have H2 := Aside0.mk (((h.al (.cells #[.pointer (some ⟨g, 0, none⟩)] 23)).al (.cells #[.int .i64 i] 3)).al (.cells #[.slice B bs.length cb] 32))
  have HAB := Aside0.mk (able_calls G g s i _ H2.out)
  have HW2 := Aside0.mk (Wr.of_below (g := g) (below_alloc (below_alloc (below_alloc (Below.refl w.heap.size w) (.cells #[.pointer (some ⟨g, 0, none⟩)] 23)) (.cells #[.int .i64 i] 3)) (.cells #[.slice B bs.length cb] 32)))
  rcases able_cases s i with c | ⟨c, j, hj, rfl, _, _⟩
  · have HR := Aside0.mk (show appendP s i bs = (s, ableP s i) by unfold appendP; rw [if_pos c])
    have c1 : (ableP s i != (0 : Int)) = true := by simpa using c
    have c2 : (ableP s i == (0 : Int)) = false := by simpa using c
    rw [HR.out]
    clear h c HR hok hbv hbl hcb
    generalize ableP s i = er at *
    go_enter Try.func32, Try.ntmps32
    go_wp2_with (fail)
    refine (HAB.out).mono ?_
    rintro e w1 ⟨rfl, ⟨nd, rfl⟩⟩
    go_wp2
    go_ret
    exact ⟨rfl, H2.out.drN nd, HW2.out.drew1 nd⟩
  · rw [c] at HAB
    have HJ := Aside0.mk hj
    obtain ⟨hx1, hx2, hx3, hx4⟩ := box_cells w g (j : Int) (.slice B bs.length cb)
    have HB1 := Aside0.mk hx1
    have HB2 := Aside0.mk hx2
    have HB3 := Aside0.mk hx3
    have HZ := Aside0.mk hx4
    have hc27 : s.room = s.room → ∃ d, At (B3 w g (j : Int) (.slice B bs.length cb)) g d ∧ d.room = s.room := fun _ => by
      obtain ⟨_, _, d, hA, hR⟩ := H2.out
      exact ⟨d, hA, hR.2.2.2.1⟩
    obtain ⟨d, hA, hrm⟩ := hc27 rfl
    have HA27 := Aside0.mk (show (B3 w g (j : Int) (.slice B bs.length cb)).cell? ⟨g, 27, none⟩ = some (.int .i64 s.room) by rw [← hrm]; exact hA.c27)
    have HC := Aside0.mk c
    obtain ⟨r, hr⟩ : ∃ r, appendP s (j : Int) bs = r := ⟨_, rfl⟩
    rw [hr]
    have HRR := Aside0.mk hr
    clear hr
    clear h c hok hbv hbl hcb hx1 hx2 hx3 hx4 hj hA hrm
    go_enter Try.func32, Try.ntmps32
    go_wp2_with (fail)
    refine (HAB.out).mono ?_
    rintro e w1 ⟨rfl, ⟨nd, rfl⟩⟩
    go_wp2
    refine with_w (fun w' => IsD G w' g s ∧ Wr g w w' ∧ w'.cell? ⟨w.heap.size, 0, none⟩ = some (.pointer (some ⟨g, 0, none⟩)) ∧ w'.cell? ⟨w.heap.size + 1, 0, none⟩ = some (.int .i64 (j : Int)) ∧ w'.cell? ⟨w.heap.size + 2, 0, none⟩ = some (.slice B bs.length cb) ∧ w'.cell? ⟨g, 27, none⟩ = some (.int .i64 s.room)) ⟨H2.out.drN nd, HW2.out.drew1 nd, HB1.out, HB2.out, HB3.out, HA27.out⟩ ?_
    clear H2 HW2 HB1 HB2 HB3 HA27 HZ HAB
    rintro wr ⟨h3, hW, hb1, hb2, hb3, hc27⟩
    have H3 := Aside0.mk h3
    have HW := Aside0.mk hW
    have HB2 := Aside0.mk hb2
    have HL1 := Aside0.mk (World.block_lt_of_cell? wr _ hb1)
    have HL2 := Aside0.mk (World.block_lt_of_cell? wr _ hb2)
    have HL3 := Aside0.mk (World.block_lt_of_cell? wr _ hb3)
    have HLG := Aside0.mk h3.ltg
    obtain ⟨D, hD⟩ : ∃ D : Int, s.room - (usedP s : Int) = D := ⟨_, rfl⟩
    have hU := used_le HOK.out.1
    have hRM := HOK.out.1.room
    have hw1 : wrap64 (s.room - (usedP s : Int)) = D := by unfold wrap64; omega
    have hw2 : IntKind.i64.wrap (s.room - (usedP s : Int)) = D := by clear hw1; exact (IntWalk.i64_in _ (by omega)).trans hD
    by_cases cf : D < (bs.length : Int)
    · have d1 : decide (D < (bs.length : Int)) = true := decide_eq_true cf
      have HR := Aside0.mk (show appendP s (j : Int) bs = (s, 7) by unfold appendP; rw [if_neg (by rw [HC.out]; decide), if_pos (by clear hw1 hw2 d1; omega)])
      rw [HR.out] at HRR
      clear h3 hW hb2 hD hU hRM cf
      refine start_ (n := 10) (S := fun w' => w'.cell? ⟨w.heap.size, 0, none⟩ = some (.pointer (some ⟨g, 0, none⟩)) ∧ w'.cell? ⟨w.heap.size + 2, 0, none⟩ = some (.slice B bs.length cb) ∧ w'.cell? ⟨g, 27, none⟩ = some (.int .i64 s.room)) (ds := []) #[false, false, false, false, false, false, false, false, false, false] (by kernel_rfl) rfl rfl ⟨hb1, hb3, hc27⟩ (fun hHeld => ?_)
      refine take_ (i := 0) (N := some 14) (v := ?_) (a' := ?_) #[true, false, false, false, false, false, false, false, false, false] rfl rfl (by kernel_rfl) (fun _ _ _ h => h) (Or.inl ⟨by rfl, ?_⟩) hHeld ?_ ?_
      rotate_left
      · rintro w' ⟨s0, s1, s2⟩
        go_simp
        with_reducible rfl
      rotate_left
      · simp only [Act.put, List.setIfInBounds_toArray, List.set_cons_zero, List.set_cons_succ, i64_w, i32_w]
        rfl
      refine pure_ (i := 1) (N := some 15) (v := ?_) (a' := ?_) #[true, true, false, false, false, false, false, false, false, false] rfl rfl (by kernel_rfl) (fun _ _ _ h => h) (Or.inl ⟨by rfl, ?_⟩) ?_ ?_
      rotate_left
      · intro w'
        go_simp
        with_reducible rfl
      rotate_left
      · simp only [Act.put, List.setIfInBounds_toArray, List.set_cons_zero, List.set_cons_succ, i64_w, i32_w]
        rfl
      refine take_ (i := 2) (N := some 16) (v := ?_) (a' := ?_) #[true, true, true, false, false, false, false, false, false, false] rfl rfl (by kernel_rfl) (fun _ _ _ h => h) (Or.inl ⟨by rfl, ?_⟩) hHeld ?_ ?_
      rotate_left
      · rintro w' ⟨s0, s1, s2⟩
        go_simp
        with_reducible rfl
      rotate_left
      · simp only [Act.put, List.setIfInBounds_toArray, List.set_cons_zero, List.set_cons_succ, i64_w, i32_w]
        rfl
      refine pure_ (i := 3) (N := some 17) (v := ?_) (a' := ?_) #[true, true, true, true, false, false, false, false, false, false] rfl rfl (by kernel_rfl) (fun _ _ _ h => h) (Or.inl ⟨by rfl, ?_⟩) ?_ ?_
      rotate_left
      · intro w'
        go_simp
        with_reducible rfl
      rotate_left
      · simp only [Act.put, List.setIfInBounds_toArray, List.set_cons_zero, List.set_cons_succ, i64_w, i32_w]
        rfl
      refine pure_ (i := 4) (N := some 18) (v := ?_) (a' := ?_) #[true, true, true, true, true, false, false, false, false, false] rfl rfl (by kernel_rfl) (fun _ _ _ h => h) (Or.inl ⟨by rfl, ?_⟩) ?_ ?_
      rotate_left
      · intro w'
        go_simp
        with_reducible rfl
      rotate_left
      · simp only [Act.put, List.setIfInBounds_toArray, List.set_cons_zero, List.set_cons_succ, i64_w, i32_w]
        rfl
      refine take_ (i := 5) (N := some 19) (v := ?_) (a' := ?_) #[true, true, true, true, true, true, false, false, false, false] rfl rfl (by kernel_rfl) (fun _ _ _ h => h) (Or.inl ⟨by rfl, ?_⟩) hHeld ?_ ?_
      rotate_left
      · rintro w' ⟨s0, s1, s2⟩
        go_simp
        with_reducible rfl
      rotate_left
      · simp only [Act.put, List.setIfInBounds_toArray, List.set_cons_zero, List.set_cons_succ, i64_w, i32_w]
        rfl
      refine take_ (i := 6) (N := some 20) (v := ?_) (a' := ?_) #[true, true, true, true, true, true, true, false, false, false] rfl rfl (by kernel_rfl) (fun _ _ _ h => h) (Or.inl ⟨by rfl, ?_⟩) hHeld ?_ ?_
      rotate_left
      · rintro w' ⟨s0, s1, s2⟩
        go_simp
        with_reducible rfl
      rotate_left
      · simp only [Act.put, List.setIfInBounds_toArray, List.set_cons_zero, List.set_cons_succ, i64_w, i32_w]
        rfl
      refine one_ (i := 7) (N := some 21) #[true, true, true, true, true, true, true, true, false, false] rfl rfl (by kernel_rfl) (by decide) (fun K hK => ?_)
      refine goes_ Try.func18 (by kernel_rfl) rfl #[.pointer (some ⟨g, 0, none⟩)] (by rfl) rfl rfl (by first | rfl | (simp; done) | (simp only [List.map_toArray, List.map_cons, List.map_nil]; rfl)) ?_
      with_reducible refine (Used_calls G g s _ (by repeat (first | exact H3.out | (with_reducible refine IsD.dr ?_) | (with_reducible refine IsD.drN ?_ _))) HOK1.out).mono ?_
      rintro e w3 ⟨rfl, hb⟩
      refine ⟨_, rfl, ?_⟩
      refine hK.out _ _ ⟨(hb.cell (p := ⟨w.heap.size, 0, none⟩) HL1.out).trans hHeld.1, (hb.cell (p := ⟨w.heap.size + 2, 0, none⟩) HL3.out).trans hHeld.2.1, (hb.cell (p := ⟨g, 27, none⟩) HLG.out).trans hHeld.2.2⟩ (fun hHeld => ?_)
      clear hK K
      refine norm_ (a' := ?_) ?_ ?_
      rotate_left
      · show Act.put _ (some 21) _ = _
        simp only [Act.put, List.setIfInBounds_toArray, List.set_cons_zero, List.set_cons_succ, i64_w, i32_w]
        rfl
      refine pure_ (i := 8) (N := some 22) (v := ?_) (a' := ?_) #[true, true, true, true, true, true, true, true, true, false] rfl rfl (by kernel_rfl) (fun _ _ _ h => h) (Or.inl ⟨by rfl, ?_⟩) ?_ ?_
      rotate_left
      · intro w'
        go_simp
        with_reducible rfl
      rotate_left
      · simp only [Act.put, List.setIfInBounds_toArray, List.set_cons_zero, List.set_cons_succ, i64_w, i32_w]
        rfl
      refine pure_ (i := 9) (N := some 23) (v := ?_) (a' := ?_) #[true, true, true, true, true, true, true, true, true, true] rfl rfl (by kernel_rfl) (fun _ _ _ h => h) (Or.inl ⟨by rfl, ?_⟩) ?_ ?_
      rotate_left
      · intro w'
        go_simp
        with_reducible rfl
      rotate_left
      · simp only [Act.put, List.setIfInBounds_toArray, List.set_cons_zero, List.set_cons_succ, i64_w, i32_w]
        rfl
      refine done_ (by kernel_rfl) ?_

      have HB := Aside0.mk (below_step (below_drew1 (Below.refl wr.heap.size wr)) hb)
      clear hb
      go_wp2
      go_ret
      rw [← HRR.out]
      exact ⟨rfl, H3.out.below HB.out, HW.out.trans (Wr.of_below HB.out)⟩
    · have d1 : decide (D < (bs.length : Int)) = false := decide_eq_false cf
      have HNF := Aside0.mk (show ¬ s.room < (usedP s : Int) + (bs.length : Int) by clear hw1 hw2 d1; omega)
      have HR := Aside0.mk (show appendP s (j : Int) bs = actP s bs.length (doneA j bs) by unfold appendP; rw [if_neg (by rw [HC.out]; decide), if_neg HNF.out, Int.toNat_natCast])
      rw [HR.out] at HRR
      clear h3 hW hb2 hD hU hRM cf
      refine start_ (n := 10) (S := fun w' => w'.cell? ⟨w.heap.size, 0, none⟩ = some (.pointer (some ⟨g, 0, none⟩)) ∧ w'.cell? ⟨w.heap.size + 2, 0, none⟩ = some (.slice B bs.length cb) ∧ w'.cell? ⟨g, 27, none⟩ = some (.int .i64 s.room)) (ds := []) #[false, false, false, false, false, false, false, false, false, false] (by kernel_rfl) rfl rfl ⟨hb1, hb3, hc27⟩ (fun hHeld => ?_)
      refine take_ (i := 0) (N := some 14) (v := ?_) (a' := ?_) #[true, false, false, false, false, false, false, false, false, false] rfl rfl (by kernel_rfl) (fun _ _ _ h => h) (Or.inl ⟨by rfl, ?_⟩) hHeld ?_ ?_
      rotate_left
      · rintro w' ⟨s0, s1, s2⟩
        go_simp
        with_reducible rfl
      rotate_left
      · simp only [Act.put, List.setIfInBounds_toArray, List.set_cons_zero, List.set_cons_succ, i64_w, i32_w]
        rfl
      refine pure_ (i := 1) (N := some 15) (v := ?_) (a' := ?_) #[true, true, false, false, false, false, false, false, false, false] rfl rfl (by kernel_rfl) (fun _ _ _ h => h) (Or.inl ⟨by rfl, ?_⟩) ?_ ?_
      rotate_left
      · intro w'
        go_simp
        with_reducible rfl
      rotate_left
      · simp only [Act.put, List.setIfInBounds_toArray, List.set_cons_zero, List.set_cons_succ, i64_w, i32_w]
        rfl
      refine take_ (i := 2) (N := some 16) (v := ?_) (a' := ?_) #[true, true, true, false, false, false, false, false, false, false] rfl rfl (by kernel_rfl) (fun _ _ _ h => h) (Or.inl ⟨by rfl, ?_⟩) hHeld ?_ ?_
      rotate_left
      · rintro w' ⟨s0, s1, s2⟩
        go_simp
        with_reducible rfl
      rotate_left
      · simp only [Act.put, List.setIfInBounds_toArray, List.set_cons_zero, List.set_cons_succ, i64_w, i32_w]
        rfl
      refine pure_ (i := 3) (N := some 17) (v := ?_) (a' := ?_) #[true, true, true, true, false, false, false, false, false, false] rfl rfl (by kernel_rfl) (fun _ _ _ h => h) (Or.inl ⟨by rfl, ?_⟩) ?_ ?_
      rotate_left
      · intro w'
        go_simp
        with_reducible rfl
      rotate_left
      · simp only [Act.put, List.setIfInBounds_toArray, List.set_cons_zero, List.set_cons_succ, i64_w, i32_w]
        rfl
      refine pure_ (i := 4) (N := some 18) (v := ?_) (a' := ?_) #[true, true, true, true, true, false, false, false, false, false] rfl rfl (by kernel_rfl) (fun _ _ _ h => h) (Or.inl ⟨by rfl, ?_⟩) ?_ ?_
      rotate_left
      · intro w'
        go_simp
        with_reducible rfl
      rotate_left
      · simp only [Act.put, List.setIfInBounds_toArray, List.set_cons_zero, List.set_cons_succ, i64_w, i32_w]
        rfl
      refine take_ (i := 5) (N := some 19) (v := ?_) (a' := ?_) #[true, true, true, true, true, true, false, false, false, false] rfl rfl (by kernel_rfl) (fun _ _ _ h => h) (Or.inl ⟨by rfl, ?_⟩) hHeld ?_ ?_
      rotate_left
      · rintro w' ⟨s0, s1, s2⟩
        go_simp
        with_reducible rfl
      rotate_left
      · simp only [Act.put, List.setIfInBounds_toArray, List.set_cons_zero, List.set_cons_succ, i64_w, i32_w]
        rfl
      refine take_ (i := 6) (N := some 20) (v := ?_) (a' := ?_) #[true, true, true, true, true, true, true, false, false, false] rfl rfl (by kernel_rfl) (fun _ _ _ h => h) (Or.inl ⟨by rfl, ?_⟩) hHeld ?_ ?_
      rotate_left
      · rintro w' ⟨s0, s1, s2⟩
        go_simp
        with_reducible rfl
      rotate_left
      · simp only [Act.put, List.setIfInBounds_toArray, List.set_cons_zero, List.set_cons_succ, i64_w, i32_w]
        rfl
      refine one_ (i := 7) (N := some 21) #[true, true, true, true, true, true, true, true, false, false] rfl rfl (by kernel_rfl) (by decide) (fun K hK => ?_)
      refine goes_ Try.func18 (by kernel_rfl) rfl #[.pointer (some ⟨g, 0, none⟩)] (by rfl) rfl rfl (by first | rfl | (simp; done) | (simp only [List.map_toArray, List.map_cons, List.map_nil]; rfl)) ?_
      with_reducible refine (Used_calls G g s _ (by repeat (first | exact H3.out | (with_reducible refine IsD.dr ?_) | (with_reducible refine IsD.drN ?_ _))) HOK1.out).mono ?_
      rintro e w3 ⟨rfl, hb⟩
      refine ⟨_, rfl, ?_⟩
      refine hK.out _ _ ⟨(hb.cell (p := ⟨w.heap.size, 0, none⟩) HL1.out).trans hHeld.1, (hb.cell (p := ⟨w.heap.size + 2, 0, none⟩) HL3.out).trans hHeld.2.1, (hb.cell (p := ⟨g, 27, none⟩) HLG.out).trans hHeld.2.2⟩ (fun hHeld => ?_)
      clear hK K
      refine norm_ (a' := ?_) ?_ ?_
      rotate_left
      · show Act.put _ (some 21) _ = _
        simp only [Act.put, List.setIfInBounds_toArray, List.set_cons_zero, List.set_cons_succ, i64_w, i32_w]
        rfl
      refine pure_ (i := 8) (N := some 22) (v := ?_) (a' := ?_) #[true, true, true, true, true, true, true, true, true, false] rfl rfl (by kernel_rfl) (fun _ _ _ h => h) (Or.inl ⟨by rfl, ?_⟩) ?_ ?_
      rotate_left
      · intro w'
        go_simp
        with_reducible rfl
      rotate_left
      · simp only [Act.put, List.setIfInBounds_toArray, List.set_cons_zero, List.set_cons_succ, i64_w, i32_w]
        rfl
      refine pure_ (i := 9) (N := some 23) (v := ?_) (a' := ?_) #[true, true, true, true, true, true, true, true, true, true] rfl rfl (by kernel_rfl) (fun _ _ _ h => h) (Or.inl ⟨by rfl, ?_⟩) ?_ ?_
      rotate_left
      · intro w'
        go_simp
        with_reducible rfl
      rotate_left
      · simp only [Act.put, List.setIfInBounds_toArray, List.set_cons_zero, List.set_cons_succ, i64_w, i32_w]
        rfl
      refine done_ (by kernel_rfl) ?_

      have HB := Aside0.mk (below_step (below_drew1 (Below.refl wr.heap.size wr)) hb)
      have hc1 : w3.cell? ⟨w.heap.size, 0, none⟩ = some (.pointer (some ⟨g, 0, none⟩)) := (HB.out.cell (p := ⟨w.heap.size, 0, none⟩) HL1.out).trans hb1
      have hc3 : w3.cell? ⟨w.heap.size + 2, 0, none⟩ = some (.slice B bs.length cb) := (HB.out.cell (p := ⟨w.heap.size + 2, 0, none⟩) HL3.out).trans hb3
      have HC1 := Aside0.mk hc1
      have HC3 := Aside0.mk hc3
      have HC2 := Aside0.mk ((HB.out.cell (p := ⟨w.heap.size + 1, 0, none⟩) HL2.out).trans HB2.out)
      have HBV3 := Aside0.mk (HBV.out.step (fun b hb hlt => (HW.out.trans (Wr.of_below HB.out)).block b hlt hb))
      clear hb hb1 hb3 hc27 hw1 hw2
      go_wp2_with (fail)
      refine (act46_calls G g s bs.length (doneA j bs) (.pointer (some ⟨w.heap.size, 0, none⟩)) (.pointer (some ⟨w.heap.size + 1, 0, none⟩)) (.pointer (some ⟨w.heap.size + 2, 0, none⟩)) _ (H3.out.below HB.out) HOK.out.1 HBL.out (fun s' m w' hI hfs hW hm => ?cl) ((HOK.out.1.burn _).doneA HJ.out bs _ (by rw [fl_burn]; exact fits HOK.out.1 HJ.out bs (by have := HNF.out; omega))) (keepA j bs s _ _) HOK.out.2).mono ?_
      case cl =>
        have hs' : (fl s' j).seen.length ≤ 4194304 := by
          have := HOK.out.1.seen_le HJ.out
          unfold fl at this ⊢
          rw [hfs]; exact this
        exact c46_calls G g s' j m bs B cb w.heap.size (w.heap.size + 1) (w.heap.size + 2) w' hI HJ.out hs' (hW.cell (b := w.heap.size) HC1.out (by have := HG.out; omega)) (hW.cell (b := w.heap.size + 1) HC2.out (by have := HG.out; omega)) (hW.cell (b := w.heap.size + 2) HC3.out (by have := HG.out; omega)) (Kd.V_reads' (HBV3.out.step (fun b hb hlt => hW.block b hlt hb))).2.2 HCB.out hm HBL.out
      rintro e w4 ⟨rfl, hI, hW⟩
      have HI := Aside0.mk hI
      have HWF := Aside0.mk ((HW.out.trans (Wr.of_below HB.out)).trans hW)
      clear hI hW
      go_wp2
      go_ret
      rw [← HRR.out]
      exact ⟨rfl, HI.out, HWF.out⟩
end Go.Proofs.Ytehjbhnlbjbhfaa.Dk
