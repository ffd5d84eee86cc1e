/- Contract of the document's disk: Append. -/
import Derived.Test.YtehjbhnlbjbhfaaRdF
namespace Go.Proofs.Ytehjbhnlbjbhfaa.Rd
open Go Go.RowKit Go.Proofs.YtehjbhnlbjbhfaaW.PrintWords Go.Proofs.YtehjbhnlbjbhfaaW.PrintLast Go.Proofs.YtehjbhnlbjbhfaaW.PrintMore Go.Proofs.Ytehjbhnlbjbhfaa.Dk
open Go.Proofs.Ytehjbhnlbjbhfaa.PDiskBegins
attribute [local go_sem] max2_int min2_int max_two min_two
set_option linter.unusedVariables false
set_option linter.unusedSimpArgs false
theorem burnN_le (s : DS) (n : Nat) : burnN s n ≤ n := by
  unfold burnN
  by_cases c : s.set = true ∧ s.left ≤ (n : Int)
  · rw [if_pos c]; omega
  · rw [if_neg c]; exact Nat.le_refl _
set_option maxHeartbeats 16000000 in
set_option maxRecDepth 100000 in
theorem RAppend_calls (G : Nat → Prop) (x : Nat) (s : DS) (i : Int) (bV : Value) (bs : List Int) (w : World) (h : IsX G w x s) (hok : Okk s) (hr : s.room ≠ 0) (hbv : Rw (fun b => b = x) .u8 w bV bs) (hbl : bs.length < 1000000000) : Calls Try.prog 33 #[.pointer (some ⟨x, 0, none⟩), .int .i64 i, bV] w fun e w' => e = .returned (.int .i64 (appendP s i bs).2) ∧ IsX G w' x (appendP s i bs).1 ∧ Wr x w w' := by
  have H := Aside0.mk h
  have HOK := Aside0.mk hok
  have HOK1 := Aside0.mk hok.1
  have HBV := Aside0.mk hbv
  have HAB := Aside0.mk (may_calls G x s i w h)
  obtain ⟨B, cb, rfl, hcb, _⟩ := hbv.slice
  rcases may_cases s i with c | ⟨c, j, hj, rfl, _⟩
  · have HR := Aside0.mk (show appendP s i bs = (s, mayP s i) by unfold appendP; rw [able_may hr, if_pos c])
    have c1 : (mayP s i != (0 : Int)) = true := by simpa using c
    have c2 : (mayP s i == (0 : Int)) = false := by simpa using c
    rw [HR.out]
    clear h c HR hok hbv
    generalize mayP s i = er at *
    go_enter Try.func33, Try.ntmps33
    go_wp2_with (fail)
    refine (HAB.out).mono ?_
    rintro e w1 ⟨rfl, ⟨nd, rfl⟩⟩
    go_wp2_with (fail)
    go_ret
    exact ⟨rfl, H.out.drN nd, (Wr.refl x w).drew1 nd⟩
  · have HR := Aside0.mk (show appendP s (j : Int) bs = if s.room < (usedP s : Int) + (bs.length : Int) then (s, 7) else actP s bs.length (doneA j bs) by unfold appendP; rw [able_may hr, if_neg (by rw [c]; decide), Int.toNat_natCast])
    rw [c] at HAB
    obtain ⟨r, hrr⟩ : ∃ r, appendP s (j : Int) bs = r := ⟨_, rfl⟩
    rw [hrr] at HR ⊢
    clear hrr c h hbv
    have hU := used_le hok.1
    have HFT := Aside0.mk (fun c => fits hok.1 hj bs c)
    have HBN := Aside0.mk (burnN_le s bs.length)
    have HOKB := Aside0.mk (hok.1.burn bs.length)
    have HKB := Aside0.mk (burn_fs s bs.length)
    have HFB := Aside0.mk (fl_burn s bs.length j)
    have HI64 := Aside0.mk hok.2
    have hw1 : wrap64 ((usedP s : Int) + (bs.length : Int)) = (usedP s : Int) + (bs.length : Int) := by unfold wrap64; omega
    have hw2 : IntKind.i64.wrap ((usedP s : Int) + (bs.length : Int)) = (usedP s : Int) + (bs.length : Int) := by clear hw1; exact IntWalk.i64_in _ (by omega)
    go_enter Try.func33, Try.ntmps33
    go_wp2_with (fail)
    refine (HAB.out).mono ?_
    rintro e w1 ⟨rfl, ⟨nd, rfl⟩⟩
    have H1 := Aside0.mk (H.out.drN nd)
    have HW1 := Aside0.mk ((Wr.refl x w).drew1 nd)
    have HBV1 := Aside0.mk (HBV.out.wr HW1.out rfl)
    clear H HBV HAB
    generalize w.drewN nd = w1 at *
    have H4 := Aside0.mk (show IsX G w1.drew x s from H1.out.below (below_drew1 (Below.refl _ _)))
    have HC24 := Aside0.mk (show w1.drew.cell? ⟨x, 24, none⟩ = some (.int .i64 s.room) by obtain ⟨_, _, kv, hA, _⟩ := H4.out; exact hA.c24)
    have HBD := Aside0.mk (below_drew1 (Below.refl w1.heap.size w1))
    go_wp2_with (fail)
    by_cases cf : s.room < (usedP s : Int) + (bs.length : Int)
    · have d1 : decide (s.room < (usedP s : Int) + (bs.length : Int)) = true := decide_eq_true cf
      have HE := Aside0.mk (HR.out.trans (if_pos cf))
      clear HR cf hok
      refine start_ (n := 10) (S := fun w' => IsX G w' x s ∧ w'.cell? ⟨x, 24, none⟩ = some (.int .i64 s.room)) (ds := []) #[false, false, false, false, false, false, false, false, false, false] (by kernel_rfl) rfl rfl ⟨H4.out, HC24.out⟩ (fun hHeld => ?_)
      refine pure_ (i := 0) (N := some 16) (v := ?_) (a' := ?_) #[true, false, false, false, false, false, false, false, false, false] rfl rfl (by kernel_rfl) (fun _ _ _ h => h) (Or.inl ⟨by rfl, ?_⟩) ?_ ?_
      rotate_left
      · intro w'
        go_simp
        with_reducible rfl
      rotate_left
      · simp only [Act.put, List.setIfInBounds_toArray, List.set_cons_zero, List.set_cons_succ, i64_w, i32_w]
        rfl
      refine pure_ (i := 2) (N := some 18) (v := ?_) (a' := ?_) #[true, false, true, false, false, false, false, false, false, false] rfl rfl (by kernel_rfl) (fun _ _ _ h => h) (Or.inl ⟨by rfl, ?_⟩) ?_ ?_
      rotate_left
      · intro w'
        go_simp
        with_reducible rfl
      rotate_left
      · simp only [Act.put, List.setIfInBounds_toArray, List.set_cons_zero, List.set_cons_succ, i64_w, i32_w]
        rfl
      refine pure_ (i := 3) (N := some 19) (v := ?_) (a' := ?_) #[true, false, true, true, false, false, false, false, false, false] rfl rfl (by kernel_rfl) (fun _ _ _ h => h) (Or.inl ⟨by rfl, ?_⟩) ?_ ?_
      rotate_left
      · intro w'
        go_simp
        with_reducible rfl
      rotate_left
      · simp only [Act.put, List.setIfInBounds_toArray, List.set_cons_zero, List.set_cons_succ, i64_w, i32_w]
        rfl
      refine pure_ (i := 5) (N := some 21) (v := ?_) (a' := ?_) #[true, false, true, true, false, true, false, false, false, false] rfl rfl (by kernel_rfl) (fun _ _ _ h => h) (Or.inl ⟨by rfl, ?_⟩) ?_ ?_
      rotate_left
      · intro w'
        go_simp
        with_reducible rfl
      rotate_left
      · simp only [Act.put, List.setIfInBounds_toArray, List.set_cons_zero, List.set_cons_succ, i64_w, i32_w]
        rfl
      refine pure_ (i := 6) (N := some 22) (v := ?_) (a' := ?_) #[true, false, true, true, false, true, true, false, false, false] rfl rfl (by kernel_rfl) (fun _ _ _ h => h) (Or.inl ⟨by rfl, ?_⟩) ?_ ?_
      rotate_left
      · intro w'
        go_simp
        with_reducible rfl
      rotate_left
      · simp only [Act.put, List.setIfInBounds_toArray, List.set_cons_zero, List.set_cons_succ, i64_w, i32_w]
        rfl
      refine pure_ (i := 7) (N := some 23) (v := ?_) (a' := ?_) #[true, false, true, true, false, true, true, true, false, false] rfl rfl (by kernel_rfl) (fun _ _ _ h => h) (Or.inl ⟨by rfl, ?_⟩) ?_ ?_
      rotate_left
      · intro w'
        go_simp
        with_reducible rfl
      rotate_left
      · simp only [Act.put, List.setIfInBounds_toArray, List.set_cons_zero, List.set_cons_succ, i64_w, i32_w]
        rfl
      refine take_ (i := 8) (N := some 24) (v := ?_) (a' := ?_) #[true, false, true, true, false, true, true, true, true, false] rfl rfl (by kernel_rfl) (fun _ _ _ h => h) (Or.inl ⟨by rfl, ?_⟩) hHeld ?_ ?_
      rotate_left
      · rintro w' ⟨s0, s1⟩
        go_simp
        with_reducible rfl
      rotate_left
      · simp only [Act.put, List.setIfInBounds_toArray, List.set_cons_zero, List.set_cons_succ, i64_w, i32_w]
        rfl
      refine one_ (i := 1) (N := some 17) #[true, true, true, true, false, true, true, true, true, false] rfl rfl (by kernel_rfl) (by decide) (fun K hK => ?_)
      refine goes_ Try.func19 (by kernel_rfl) rfl #[.pointer (some ⟨x, 0, none⟩)] (by rfl) rfl rfl (by first | rfl | (simp; done) | (simp only [List.map_toArray, List.map_cons, List.map_nil]; rfl)) ?_
      with_reducible refine (RUsed_calls G x s _ hHeld.1 HOK1.out).mono ?_
      rintro e w3 ⟨rfl, hb⟩
      refine ⟨_, rfl, ?_⟩
      have n0_ := Aside0.mk (below_step HBD.out hb)
      clear HBD
      have HBD := n0_
      clear n0_
      refine hK.out _ _ ⟨hHeld.1.below hb, (hb.cell (p := ⟨x, 24, none⟩) (by exact (hHeld.1.lt x hHeld.1.gg))).trans hHeld.2⟩ (fun hHeld => ?_)
      clear hK K
      refine norm_ (a' := ?_) ?_ ?_
      rotate_left
      · show Act.put _ (some 17) _ = _
        simp only [Act.put, List.setIfInBounds_toArray, List.set_cons_zero, List.set_cons_succ, i64_w, i32_w]
        rfl
      refine pure_ (i := 4) (N := some 20) (v := ?_) (a' := ?_) #[true, true, true, true, true, true, true, true, true, false] rfl rfl (by kernel_rfl) (fun _ _ _ h => h) (Or.inl ⟨by rfl, ?_⟩) ?_ ?_
      rotate_left
      · intro w'
        go_simp
        with_reducible rfl
      rotate_left
      · simp only [Act.put, List.setIfInBounds_toArray, List.set_cons_zero, List.set_cons_succ, i64_w, i32_w]
        rfl
      refine pure_ (i := 9) (N := some 25) (v := ?_) (a' := ?_) #[true, true, true, true, true, true, true, true, true, true] rfl rfl (by kernel_rfl) (fun _ _ _ h => h) (Or.inl ⟨by rfl, ?_⟩) ?_ ?_
      rotate_left
      · intro w'
        go_simp
        with_reducible rfl
      rotate_left
      · simp only [Act.put, List.setIfInBounds_toArray, List.set_cons_zero, List.set_cons_succ, i64_w, i32_w]
        rfl
      refine done_ (by kernel_rfl) ?_
      go_wp2_with (fail)
      go_ret
      rw [HE.out]
      exact ⟨rfl, H1.out.below HBD.out, HW1.out.trans (Wr.of_below HBD.out)⟩
    · have d1 : decide (s.room < (usedP s : Int) + (bs.length : Int)) = false := decide_eq_false cf
      have HE := Aside0.mk (HR.out.trans (if_neg (by omega)))
      have HFF := Aside0.mk (HFT.out (by omega))
      clear HR cf hok
      refine start_ (n := 10) (S := fun w' => IsX G w' x s ∧ w'.cell? ⟨x, 24, none⟩ = some (.int .i64 s.room)) (ds := []) #[false, false, false, false, false, false, false, false, false, false] (by kernel_rfl) rfl rfl ⟨H4.out, HC24.out⟩ (fun hHeld => ?_)
      refine pure_ (i := 0) (N := some 16) (v := ?_) (a' := ?_) #[true, false, false, false, false, false, false, false, false, false] rfl rfl (by kernel_rfl) (fun _ _ _ h => h) (Or.inl ⟨by rfl, ?_⟩) ?_ ?_
      rotate_left
      · intro w'
        go_simp
        with_reducible rfl
      rotate_left
      · simp only [Act.put, List.setIfInBounds_toArray, List.set_cons_zero, List.set_cons_succ, i64_w, i32_w]
        rfl
      refine pure_ (i := 2) (N := some 18) (v := ?_) (a' := ?_) #[true, false, true, false, false, false, false, false, false, false] rfl rfl (by kernel_rfl) (fun _ _ _ h => h) (Or.inl ⟨by rfl, ?_⟩) ?_ ?_
      rotate_left
      · intro w'
        go_simp
        with_reducible rfl
      rotate_left
      · simp only [Act.put, List.setIfInBounds_toArray, List.set_cons_zero, List.set_cons_succ, i64_w, i32_w]
        rfl
      refine pure_ (i := 3) (N := some 19) (v := ?_) (a' := ?_) #[true, false, true, true, false, false, false, false, false, false] rfl rfl (by kernel_rfl) (fun _ _ _ h => h) (Or.inl ⟨by rfl, ?_⟩) ?_ ?_
      rotate_left
      · intro w'
        go_simp
        with_reducible rfl
      rotate_left
      · simp only [Act.put, List.setIfInBounds_toArray, List.set_cons_zero, List.set_cons_succ, i64_w, i32_w]
        rfl
      refine pure_ (i := 5) (N := some 21) (v := ?_) (a' := ?_) #[true, false, true, true, false, true, false, false, false, false] rfl rfl (by kernel_rfl) (fun _ _ _ h => h) (Or.inl ⟨by rfl, ?_⟩) ?_ ?_
      rotate_left
      · intro w'
        go_simp
        with_reducible rfl
      rotate_left
      · simp only [Act.put, List.setIfInBounds_toArray, List.set_cons_zero, List.set_cons_succ, i64_w, i32_w]
        rfl
      refine pure_ (i := 6) (N := some 22) (v := ?_) (a' := ?_) #[true, false, true, true, false, true, true, false, false, false] rfl rfl (by kernel_rfl) (fun _ _ _ h => h) (Or.inl ⟨by rfl, ?_⟩) ?_ ?_
      rotate_left
      · intro w'
        go_simp
        with_reducible rfl
      rotate_left
      · simp only [Act.put, List.setIfInBounds_toArray, List.set_cons_zero, List.set_cons_succ, i64_w, i32_w]
        rfl
      refine pure_ (i := 7) (N := some 23) (v := ?_) (a' := ?_) #[true, false, true, true, false, true, true, true, false, false] rfl rfl (by kernel_rfl) (fun _ _ _ h => h) (Or.inl ⟨by rfl, ?_⟩) ?_ ?_
      rotate_left
      · intro w'
        go_simp
        with_reducible rfl
      rotate_left
      · simp only [Act.put, List.setIfInBounds_toArray, List.set_cons_zero, List.set_cons_succ, i64_w, i32_w]
        rfl
      refine take_ (i := 8) (N := some 24) (v := ?_) (a' := ?_) #[true, false, true, true, false, true, true, true, true, false] rfl rfl (by kernel_rfl) (fun _ _ _ h => h) (Or.inl ⟨by rfl, ?_⟩) hHeld ?_ ?_
      rotate_left
      · rintro w' ⟨s0, s1⟩
        go_simp
        with_reducible rfl
      rotate_left
      · simp only [Act.put, List.setIfInBounds_toArray, List.set_cons_zero, List.set_cons_succ, i64_w, i32_w]
        rfl
      refine one_ (i := 1) (N := some 17) #[true, true, true, true, false, true, true, true, true, false] rfl rfl (by kernel_rfl) (by decide) (fun K hK => ?_)
      refine goes_ Try.func19 (by kernel_rfl) rfl #[.pointer (some ⟨x, 0, none⟩)] (by rfl) rfl rfl (by first | rfl | (simp; done) | (simp only [List.map_toArray, List.map_cons, List.map_nil]; rfl)) ?_
      with_reducible refine (RUsed_calls G x s _ hHeld.1 HOK1.out).mono ?_
      rintro e w3 ⟨rfl, hb⟩
      refine ⟨_, rfl, ?_⟩
      have n0_ := Aside0.mk (below_step HBD.out hb)
      clear HBD
      have HBD := n0_
      clear n0_
      refine hK.out _ _ ⟨hHeld.1.below hb, (hb.cell (p := ⟨x, 24, none⟩) (by exact (hHeld.1.lt x hHeld.1.gg))).trans hHeld.2⟩ (fun hHeld => ?_)
      clear hK K
      refine norm_ (a' := ?_) ?_ ?_
      rotate_left
      · show Act.put _ (some 17) _ = _
        simp only [Act.put, List.setIfInBounds_toArray, List.set_cons_zero, List.set_cons_succ, i64_w, i32_w]
        rfl
      refine pure_ (i := 4) (N := some 20) (v := ?_) (a' := ?_) #[true, true, true, true, true, true, true, true, true, false] rfl rfl (by kernel_rfl) (fun _ _ _ h => h) (Or.inl ⟨by rfl, ?_⟩) ?_ ?_
      rotate_left
      · intro w'
        go_simp
        with_reducible rfl
      rotate_left
      · simp only [Act.put, List.setIfInBounds_toArray, List.set_cons_zero, List.set_cons_succ, i64_w, i32_w]
        rfl
      refine pure_ (i := 9) (N := some 25) (v := ?_) (a' := ?_) #[true, true, true, true, true, true, true, true, true, true] rfl rfl (by kernel_rfl) (fun _ _ _ h => h) (Or.inl ⟨by rfl, ?_⟩) ?_ ?_
      rotate_left
      · intro w'
        go_simp
        with_reducible rfl
      rotate_left
      · simp only [Act.put, List.setIfInBounds_toArray, List.set_cons_zero, List.set_cons_succ, i64_w, i32_w]
        rfl
      refine done_ (by kernel_rfl) ?_
      have HI3 := Aside0.mk (H1.out.below HBD.out)
      have HW3 := Aside0.mk (HW1.out.trans (Wr.of_below HBD.out))
      have HBV3 := Aside0.mk (HBV1.out.below HBD.out)
      clear HBD H1 HW1 HBV1 H4 HC24 hHeld d1 hw1 hw2 hU
      go_wp2_with (fail)
      refine (burn_calls G x s bs.length w3 HI3.out HOK1.out hbl).mono ?_
      rintro e w5 ⟨rfl, hI, hW⟩
      have HI5 := Aside0.mk hI
      have HW5 := Aside0.mk (HW3.out.trans hW)
      have HBV5 := Aside0.mk (HBV3.out.wr hW rfl)
      clear hI hW HI3 HW3 HBV3
      have HAC := Aside0.mk (show actP s bs.length (doneA j bs) = if struckP s bs.length = true then (fallP (setF (burnS s bs.length) j ⟨(fl s j).seen ++ bs.take (burnN s bs.length), (fl s j).lasts, (fl s j).cl⟩) s.keep, 50) else (setF (burnS s bs.length) j ⟨(fl s j).seen ++ bs.take (burnN s bs.length), (fl s j).lasts, (fl s j).cl⟩, 0) by
        unfold actP doneA; rw [HFB.out])
      rw [← HE.out] at HAC
      have HOKC := Aside0.mk (show Ok (setF (burnS s bs.length) j ⟨(fl s j).seen ++ bs.take (burnN s bs.length), (fl s j).lasts, (fl s j).cl⟩) by
        have h1 := HOKB.out.doneA hj bs (burnN s bs.length) (by rw [HFB.out]; exact HFF.out)
        unfold doneA at h1; rw [HFB.out] at h1; exact h1)
      obtain ⟨_, _, kv, hA, hKV⟩ := HI5.out
      have hst := hA.told hj
      rw [toXV_f (len_of hA) hj] at hst
      replace hst : w5.cell? ⟨x, j * 3, none⟩ = some (.string (strOfNums (fl (burnS s bs.length) j).seen)) := hst
      rw [HFB.out] at hst
      have hfst := hA.frozen (j * 3)
      obtain ⟨A1, c1, hkv, _, _⟩ := hKV.slice
      have HKE := Aside0.mk hkv
      have HCB := Aside0.mk (show (Kd.int .u8).C w5.drew B bs.length bs from Kd.C_drew (Kd.V_reads' HBV5.out).2.2)
      have HNB := HBN
      have hz := strOfNums_size (fl s j).seen
      have HZK := Aside0.mk (show (strOfNums (bs.take (burnN s bs.length))).size = burnN s bs.length by rw [strOfNums_size, List.length_take]; exact Nat.min_eq_left HBN.out)
      have HAN := Aside0.mk (app_nums (fl s j).seen (bs.take (burnN s bs.length)))
      have hsl : (fl s j).seen.length + bs.length ≤ 4194304 := HFF.out
      have HA6 := Aside0.mk (show AtX ((w5.setCell ⟨x, j * 3, none⟩ (.string (strOfNums (fl s j).seen ++ strOfNums (bs.take (burnN s bs.length))))).drew) x (toXV (setF (burnS s bs.length) j ⟨(fl s j).seen ++ bs.take (burnN s bs.length), (fl s j).lasts, (fl s j).cl⟩) kv) by
        have h1 := hA.tell hj ((fl s j).seen ++ bs.take (burnN s bs.length))
        rw [HFB.out] at h1
        rw [HAN.out]
        exact AtX.same h1 rfl)
      have HWX := Aside0.mk (fun (b : ByteArray) => show Wr x w5 ((w5.setCell ⟨x, j * 3, none⟩ (.string b)).drew) from ((Wr.refl x w5).set (j * 3) (.string b)).trans (Wr.of_below (below_drew1 (Below.refl _ _))))
      have HV6 := Aside0.mk (hKV.wr (HWX.out (strOfNums (fl s j).seen ++ strOfNums (bs.take (burnN s bs.length)))) HI5.out.gg)
      have HW6 := Aside0.mk (HW5.out.trans (HWX.out (strOfNums (fl s j).seen ++ strOfNums (bs.take (burnN s bs.length)))))
      have HIX := Aside0.mk (show IsX G ((w5.setCell ⟨x, j * 3, none⟩ (.string (strOfNums (fl s j).seen ++ strOfNums (bs.take (burnN s bs.length))))).drew) x (setF (burnS s bs.length) j ⟨(fl s j).seen ++ bs.take (burnN s bs.length), (fl s j).lasts, (fl s j).cl⟩) from
        ⟨fun b hb => Nat.lt_of_lt_of_le (HI5.out.lt b hb) (HWX.out _).size, HI5.out.gg, kv, HA6.out, HV6.out⟩)
      obtain ⟨n, hn⟩ : ∃ n, burnN s bs.length = n := ⟨_, rfl⟩
      obtain ⟨tk, htk⟩ : ∃ tk, strOfNums (bs.take n) = tk := ⟨_, rfl⟩
      obtain ⟨st, hse⟩ : ∃ st, strOfNums (fl s j).seen = st := ⟨_, rfl⟩
      rw [hn] at HNB HZK HA6 HV6 HW6 HIX HOKC HAC
      rw [htk] at HZK HA6 HV6 HW6 HIX
      rw [hse] at hst hz HA6 HV6 HW6 HIX
      have HTK := Aside0.mk htk
      have hzt := HZK.out
      have HTL := Aside0.mk (show (bs.take n).length = n by rw [List.length_take]; exact Nat.min_eq_left HNB.out)
      have hnb := HNB.out
      obtain ⟨sl, hsl2⟩ : ∃ sl, (fl s j).seen.length = sl := ⟨_, rfl⟩
      rw [hsl2] at hz hsl
      rw [hn]
      clear hA hKV hkv htk hse HAN hsl2 HFB HFF HBN HE hn
      have hle3 : ¬ 9223372036854775807 < sl + n := by omega
      have hj8 : (j : Int) < 8 := by omega
      have hcb2 : n ≤ cb := by omega
      have hnb2 : (n : Int) ≤ (bs.length : Int) := by omega
      have hnb3 : (n : Int) ≤ (cb : Int) := by omega
      go_wp2_with (fail)
      refine start_ (n := 19) (S := fun w' => w'.cell? ⟨x, j * 3, none⟩ = some (.string st) ∧ w'.frozen? ⟨x, j * 3, none⟩ = false ∧ (Kd.int .u8).C w' B bs.length bs) (ds := [18]) #[false, false, false, false, false, false, false, false, false, false, false, false, false, false, false, false, false, false, false] (by kernel_rfl) rfl rfl ⟨hst, hfst, HCB.out⟩ (fun hHeld => ?_)
      refine pure_ (i := 0) (N := some 33) (v := ?_) (a' := ?_) #[true, false, false, false, false, false, false, false, false, false, false, false, false, false, false, false, false, false, false] rfl rfl (by kernel_rfl) (fun _ _ _ h => h) (Or.inl ⟨by rfl, ?_⟩) ?_ ?_
      rotate_left
      · intro w'
        go_simp
        with_reducible rfl
      rotate_left
      · simp only [Act.put, List.setIfInBounds_toArray, List.set_cons_zero, List.set_cons_succ, i64_w, i32_w]
        rfl
      refine pure_ (i := 1) (N := some 34) (v := ?_) (a' := ?_) #[true, true, false, false, false, false, false, false, false, false, false, false, false, false, false, false, false, false, false] rfl rfl (by kernel_rfl) (fun _ _ _ h => h) (Or.inl ⟨by rfl, ?_⟩) ?_ ?_
      rotate_left
      · intro w'
        go_simp
        with_reducible rfl
      rotate_left
      · simp only [Act.put, List.setIfInBounds_toArray, List.set_cons_zero, List.set_cons_succ, i64_w, i32_w]
        rfl
      refine pure_ (i := 2) (N := some 35) (v := ?_) (a' := ?_) #[true, true, true, false, false, false, false, false, false, false, false, false, false, false, false, false, false, false, false] rfl rfl (by kernel_rfl) (fun _ _ _ h => h) (Or.inl ⟨by rfl, ?_⟩) ?_ ?_
      rotate_left
      · intro w'
        go_simp
        with_reducible rfl
      rotate_left
      · simp only [Act.put, List.setIfInBounds_toArray, List.set_cons_zero, List.set_cons_succ, i64_w, i32_w]
        rfl
      refine pure_ (i := 3) (N := some 36) (v := ?_) (a' := ?_) #[true, true, true, true, false, false, false, false, false, false, false, false, false, false, false, false, false, false, false] rfl rfl (by kernel_rfl) (fun _ _ _ h => h) (Or.inl ⟨by rfl, ?_⟩) ?_ ?_
      rotate_left
      · intro w'
        go_simp
        with_reducible rfl
      rotate_left
      · simp only [Act.put, List.setIfInBounds_toArray, List.set_cons_zero, List.set_cons_succ, i64_w, i32_w]
        rfl
      refine pure_ (i := 4) (N := some 37) (v := ?_) (a' := ?_) #[true, true, true, true, true, false, false, false, false, false, false, false, false, false, false, false, false, false, false] rfl rfl (by kernel_rfl) (fun _ _ _ h => h) (Or.inl ⟨by rfl, ?_⟩) ?_ ?_
      rotate_left
      · intro w'
        go_simp
        with_reducible rfl
      rotate_left
      · simp only [Act.put, List.setIfInBounds_toArray, List.set_cons_zero, List.set_cons_succ, i64_w, i32_w]
        rfl
      refine pure_ (i := 5) (N := some 38) (v := ?_) (a' := ?_) #[true, true, true, true, true, true, false, false, false, false, false, false, false, false, false, false, false, false, false] rfl rfl (by kernel_rfl) (fun _ _ _ h => h) (Or.inl ⟨by rfl, ?_⟩) ?_ ?_
      rotate_left
      · intro w'
        go_simp
        with_reducible rfl
      rotate_left
      · simp only [Act.put, List.setIfInBounds_toArray, List.set_cons_zero, List.set_cons_succ, i64_w, i32_w]
        rfl
      refine pure_ (i := 6) (N := some 39) (v := ?_) (a' := ?_) #[true, true, true, true, true, true, true, false, false, false, false, false, false, false, false, false, false, false, false] rfl rfl (by kernel_rfl) (fun _ _ _ h => h) (Or.inl ⟨by rfl, ?_⟩) ?_ ?_
      rotate_left
      · intro w'
        go_simp
        with_reducible rfl
      rotate_left
      · simp only [Act.put, List.setIfInBounds_toArray, List.set_cons_zero, List.set_cons_succ, i64_w, i32_w]
        rfl
      refine pure_ (i := 7) (N := some 40) (v := ?_) (a' := ?_) #[true, true, true, true, true, true, true, true, false, false, false, false, false, false, false, false, false, false, false] rfl rfl (by kernel_rfl) (fun _ _ _ h => h) (Or.inl ⟨by rfl, ?_⟩) ?_ ?_
      rotate_left
      · intro w'
        go_simp
        with_reducible rfl
      rotate_left
      · simp only [Act.put, List.setIfInBounds_toArray, List.set_cons_zero, List.set_cons_succ, i64_w, i32_w]
        rfl
      refine pure_ (i := 9) (N := some 42) (v := ?_) (a' := ?_) #[true, true, true, true, true, true, true, true, false, true, false, false, false, false, false, false, false, false, false] rfl rfl (by kernel_rfl) (fun _ _ _ h => h) (Or.inl ⟨by rfl, ?_⟩) ?_ ?_
      rotate_left
      · intro w'
        go_simp
        with_reducible rfl
      rotate_left
      · simp only [Act.put, List.setIfInBounds_toArray, List.set_cons_zero, List.set_cons_succ, i64_w, i32_w]
        rfl
      refine pure_ (i := 10) (N := some 43) (v := ?_) (a' := ?_) #[true, true, true, true, true, true, true, true, false, true, true, false, false, false, false, false, false, false, false] rfl rfl (by kernel_rfl) (fun _ _ _ h => h) (Or.inl ⟨by rfl, ?_⟩) ?_ ?_
      rotate_left
      · intro w'
        go_simp
        with_reducible rfl
      rotate_left
      · simp only [Act.put, List.setIfInBounds_toArray, List.set_cons_zero, List.set_cons_succ, i64_w, i32_w]
        rfl
      refine pure_ (i := 11) (N := some 44) (v := ?_) (a' := ?_) #[true, true, true, true, true, true, true, true, false, true, true, true, false, false, false, false, false, false, false] rfl rfl (by kernel_rfl) (fun _ _ _ h => h) (Or.inl ⟨by rfl, ?_⟩) ?_ ?_
      rotate_left
      · intro w'
        go_simp
        with_reducible rfl
      rotate_left
      · simp only [Act.put, List.setIfInBounds_toArray, List.set_cons_zero, List.set_cons_succ, i64_w, i32_w]
        rfl
      refine take_ (i := 12) (N := some 45) (v := ?_) (a' := ?_) #[true, true, true, true, true, true, true, true, false, true, true, true, true, false, false, false, false, false, false] rfl rfl (by kernel_rfl) (fun _ _ _ h => h) (Or.inl ⟨by rfl, ?_⟩) hHeld ?_ ?_
      rotate_left
      · rintro w' ⟨s0, s1, s2⟩
        have hk_ := Kd.C_string (P := Try.prog) (A := B) (c := cb) Try.underlying32 Try.underlying5 Try.underlying9 (Kd.C_take s2 HNB.out)
        rw [HTL.out, HTK.out] at hk_
        go_simp
        with_reducible rfl
      rotate_left
      · simp only [Act.put, List.setIfInBounds_toArray, List.set_cons_zero, List.set_cons_succ, i64_w, i32_w]
        rfl
      refine pure_ (i := 14) (N := some 47) (v := ?_) (a' := ?_) #[true, true, true, true, true, true, true, true, false, true, true, true, true, false, true, false, false, false, false] rfl rfl (by kernel_rfl) (fun _ _ _ h => h) (Or.inl ⟨by rfl, ?_⟩) ?_ ?_
      rotate_left
      · intro w'
        go_simp
        with_reducible rfl
      rotate_left
      · simp only [Act.put, List.setIfInBounds_toArray, List.set_cons_zero, List.set_cons_succ, i64_w, i32_w]
        rfl
      refine pure_ (i := 15) (N := some 48) (v := ?_) (a' := ?_) #[true, true, true, true, true, true, true, true, false, true, true, true, true, false, true, true, false, false, false] rfl rfl (by kernel_rfl) (fun _ _ _ h => h) (Or.inl ⟨by rfl, ?_⟩) ?_ ?_
      rotate_left
      · intro w'
        go_simp
        with_reducible rfl
      rotate_left
      · simp only [Act.put, List.setIfInBounds_toArray, List.set_cons_zero, List.set_cons_succ, i64_w, i32_w]
        rfl
      refine take_ (i := 8) (N := some 41) (v := ?_) (a' := ?_) #[true, true, true, true, true, true, true, true, true, true, true, true, true, false, true, true, false, false, false] rfl rfl (by kernel_rfl) (fun _ _ _ h => h) (Or.inl ⟨by rfl, ?_⟩) hHeld ?_ ?_
      rotate_left
      · rintro w' ⟨s0, s1, s2⟩
        go_simp
        with_reducible rfl
      rotate_left
      · simp only [Act.put, List.setIfInBounds_toArray, List.set_cons_zero, List.set_cons_succ, i64_w, i32_w]
        rfl
      refine pure_ (i := 13) (N := some 46) (v := ?_) (a' := ?_) #[true, true, true, true, true, true, true, true, true, true, true, true, true, true, true, true, false, false, false] rfl rfl (by kernel_rfl) (fun _ _ _ h => h) (Or.inl ⟨by rfl, ?_⟩) ?_ ?_
      rotate_left
      · intro w'
        go_simp
        with_reducible rfl
      rotate_left
      · simp only [Act.put, List.setIfInBounds_toArray, List.set_cons_zero, List.set_cons_succ, i64_w, i32_w]
        rfl
      refine pure_ (i := 16) (N := some 49) (v := ?_) (a' := ?_) #[true, true, true, true, true, true, true, true, true, true, true, true, true, true, true, true, true, false, false] rfl rfl (by kernel_rfl) (fun _ _ _ h => h) (Or.inl ⟨by rfl, ?_⟩) ?_ ?_
      rotate_left
      · intro w'
        go_simp
        with_reducible rfl
      rotate_left
      · simp only [Act.put, List.setIfInBounds_toArray, List.set_cons_zero, List.set_cons_succ, i64_w, i32_w]
        rfl
      refine pure_ (i := 17) (N := some 50) (v := ?_) (a' := ?_) #[true, true, true, true, true, true, true, true, true, true, true, true, true, true, true, true, true, true, false] rfl rfl (by kernel_rfl) (fun _ _ _ h => h) (Or.inl ⟨by rfl, ?_⟩) ?_ ?_
      rotate_left
      · intro w'
        go_simp
        with_reducible rfl
      rotate_left
      · simp only [Act.put, List.setIfInBounds_toArray, List.set_cons_zero, List.set_cons_succ, i64_w, i32_w]
        rfl
      refine last_ (i := 18) (N := none) #[true, true, true, true, true, true, true, true, true, true, true, true, true, true, true, true, true, true, true] rfl rfl (by kernel_rfl) (by decide) (fun K hK => ?_)
      obtain ⟨hx0, hx1, hx2⟩ := hHeld
      refine skip_ (w1 := ?_) (by rfl) rfl ?_ ?_
      rotate_left
      · go_simp
        rfl
      refine hK.out _ _ ?_
      clear hK K
      refine done_ (by kernel_rfl) ?_
      generalize (w5.setCell ⟨x, j * 3, none⟩ (.string (st ++ tk))).drew = w6 at *
      clear hst hfst HCB hx0 hx1 hx2 hz hzt hnb hle3 hcb2 hnb2 hnb3 hj8 hsl
      cases hst : struckP s bs.length with
      | false =>
        have HST := Aside0.mk hst
        clear hst
        go_wp2_with (fail)
        go_ret
        rw [HAC.out, if_neg (show ¬ (struckP s bs.length = true) by rw [HST.out]; decide)]
        exact ⟨rfl, HIX.out, HW6.out⟩
      | true =>
        have HST := Aside0.mk hst
        clear hst
        have hck2 : w6.cell? ⟨x, 27, none⟩ = some (.slice A1 (burnS s bs.length).keep.length c1) := by rw [← HKE.out]; exact HA6.out.c27
        go_wp2_with (fail)
        have hK4 := HV6.out
        rw [HKE.out] at hK4
        replace hK4 : Rw G .i64 _ (.slice A1 (burnS s bs.length).keep.length c1) (burnS s bs.length).keep := hK4
        have HF := RFall_calls G x _ _ (burnS s bs.length).keep _ HIX.out HOKC.out (Rw.alone hK4 HIX.out.gg) (by rw [HKB.out.2.1]; exact HI64.out)
        refine HF.mono ?_
        rintro e w3 ⟨rfl, hI3, hW3⟩
        have HI3 := Aside0.mk hI3
        have HW3 := Aside0.mk (HW6.out.trans hW3)
        clear hI3 hW3 HF hK4
        go_wp2_with (fail)
        go_ret
        rw [HKB.out.2.1] at HI3
        rw [HAC.out, if_pos HST.out]
        exact ⟨rfl, HI3.out, HW3.out⟩
end Go.Proofs.Ytehjbhnlbjbhfaa.Rd
