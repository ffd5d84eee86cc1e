/- Contracts of the document's disk: Sync. -/
import Derived.Test.YtehjbhnlbjbhfaaRdD
namespace Go.Proofs.Ytehjbhnlbjbhfaa.Rd
open Go Go.RowKit Go.Proofs.YtehjbhnlbjbhfaaW.PrintWords Go.Proofs.YtehjbhnlbjbhfaaW.PrintLast Go.Proofs.YtehjbhnlbjbhfaaW.PrintMore Go.Proofs.Ytehjbhnlbjbhfaa.Dk
open Go.Proofs.Ytehjbhnlbjbhfaa.PDiskBegins
attribute [local go_sem] max2_int min2_int max_two min_two
set_option linter.unusedVariables false
set_option linter.unusedSimpArgs false
theorem len_fl {s : DS} {f : Fl} {b : Bool} {j : Nat} (h : (setF s j f).fs.length = 8) (hj : j < 8) : setF (setF s j f) j ⟨(fl (setF s j f) j).seen, (fl (setF s j f) j).lasts, b⟩ = setF s j ⟨f.seen, f.lasts, b⟩ := by
  have h0 : s.fs.length = 8 := by unfold setF at h; simpa using h
  rw [fl_set s h0 hj, set_set]
set_option maxHeartbeats 8000000 in
set_option maxRecDepth 100000 in
theorem RSync_calls (G : Nat → Prop) (x : Nat) (s : DS) (i : Int) (w : World) (h : IsX G w x s) (hok : Okk s) (hr : s.room ≠ 0) : Calls Try.prog 57 #[.pointer (some ⟨x, 0, none⟩), .int .i64 i] w fun e w' => e = .returned (.int .i64 (syncP s i).2) ∧ IsX G w' x (syncP s i).1 ∧ Wr x w w' := by
  have H := Aside0.mk h
  have HOK := Aside0.mk hok
  have HAB := Aside0.mk (may_calls G x s i w h)
  rcases may_cases s i with c | ⟨c, j, hj, rfl, _⟩
  · have HR := Aside0.mk (show syncP s i = (s, mayP s i) by unfold syncP; rw [able_may hr, if_pos c])
    have c1 : (mayP s i != (0 : Int)) = true := by simpa using c
    have c2 : (mayP s i == (0 : Int)) = false := by simpa using c
    rw [HR.out]
    clear h c HR hok
    generalize mayP s i = er at *
    go_enter Try.func57, Try.ntmps57
    go_wp2_with (fail)
    refine (HAB.out).mono ?_
    rintro e w1 ⟨rfl, ⟨nd, rfl⟩⟩
    go_wp2_with (fail)
    go_ret
    exact ⟨rfl, H.out.drN nd, (Wr.refl x w).drew1 nd⟩
  · have HR := Aside0.mk (show syncP s (j : Int) = actP s 1 (doneY j) by unfold syncP; rw [able_may hr, if_neg (by rw [c]; decide), Int.toNat_natCast])
    rw [c] at HAB
    rw [HR.out]
    have HB1 := Aside0.mk (show burnN s 1 = 1 by
      unfold burnN
      by_cases cs : s.set = true ∧ s.left ≤ ((1 : Nat) : Int)
      · rw [if_pos cs]; have := hok.1.fuse cs.1; omega
      · rw [if_neg cs])
    have HAC := Aside0.mk (show actP s 1 (doneY j) = if struckP s 1 = true then (fallP (setF (burnS s 1) j ⟨(fl (burnS s 1) j).seen, (fl (burnS s 1) j).seen, false⟩) s.keep, 50) else (setF (burnS s 1) j ⟨(fl (burnS s 1) j).seen, (fl (burnS s 1) j).seen, false⟩, 0) by
      unfold actP; rw [HB1.out]; unfold doneY; rw [if_pos rfl])
    obtain ⟨r, hrr⟩ : ∃ r, actP s 1 (doneY j) = r := ⟨_, rfl⟩
    rw [hrr] at HAC ⊢
    clear hrr
    have HBU := Aside0.mk (burn_calls G x s 1 (w.drewN 0) (H.out.drN 0) hok.1 (by decide))
    have HOKB := Aside0.mk (hok.1.burn 1)
    have HKB := Aside0.mk (burn_fs s 1)
    have HOKC := Aside0.mk (show Ok (setF (burnS s 1) j ⟨(fl (burnS s 1) j).seen, (fl (burnS s 1) j).seen, false⟩) by
      have := (hok.1.burn 1).doneY hj 1
      unfold doneY at this; rw [if_pos rfl] at this; exact this)
    have HJ := Aside0.mk hj
    have HI64 := Aside0.mk hok.2
    clear h c HR hok
    go_enter Try.func57, Try.ntmps57
    go_wp2_with (fail)
    refine (HAB.out).mono ?_
    rintro e w1 ⟨rfl, ⟨nd, rfl⟩⟩
    go_wp2_with (fail)
    refine (burn_calls G x s 1 _ (H.out.drN nd) HOK.out.1 (by decide)).mono ?_
    rintro e w2 ⟨rfl, hI, hW⟩
    have HI := Aside0.mk hI
    have HW := Aside0.mk (((Wr.refl x w).drew1 nd).trans hW)
    obtain ⟨_, _, kv, hA, hKV⟩ := hI
    have HA := Aside0.mk hA
    have HKV := Aside0.mk hKV
    have hst := hA.told hj
    rw [toXV_f (len_of hA) hj] at hst
    replace hst : w2.cell? ⟨x, j * 3, none⟩ = some (.string (strOfNums (fl (burnS s 1) j).seen)) := hst
    have hol := hA.lasts hj
    have hfl := hA.frozen (j * 3 + 1)
    have hcc := hA.cl hj
    have hfc := hA.frozen (j * 3 + 2)
    have hck : w2.cell? ⟨x, 27, none⟩ = some kv := hA.c27
    obtain ⟨A1, c1, hkv, _, _⟩ := hKV.slice
    rw [hkv] at hck
    have HKE := Aside0.mk hkv
    generalize (XV.f _ j).lasts = ot at hol
    generalize (XV.f _ j).cl = oc at hcc
    have HA2 := Aside0.mk (show AtX ((w2.setCell ⟨x, j * 3 + 1, none⟩ (.string (strOfNums (fl (burnS s 1) j).seen))).drew) x (toXV (setF (burnS s 1) j ⟨(fl (burnS s 1) j).seen, (fl (burnS s 1) j).seen, (fl (burnS s 1) j).cl⟩) kv) from AtX.same (hA.last hj (fl (burnS s 1) j).seen) rfl)
    have HW2 := Aside0.mk (HW.out.trans (show Wr x w2 ((w2.setCell ⟨x, j * 3 + 1, none⟩ (.string (strOfNums (fl (burnS s 1) j).seen))).drew) from ((Wr.refl x w2).set (j * 3 + 1) (.string (strOfNums (fl (burnS s 1) j).seen))).trans (Wr.of_below (below_drew1 (Below.refl _ _)))))
    have HV2 := Aside0.mk (HKV.out.wr (show Wr x w2 ((w2.setCell ⟨x, j * 3 + 1, none⟩ (.string (strOfNums (fl (burnS s 1) j).seen))).drew) from ((Wr.refl x w2).set (j * 3 + 1) (.string (strOfNums (fl (burnS s 1) j).seen))).trans (Wr.of_below (below_drew1 (Below.refl _ _)))) HI.out.gg)
    obtain ⟨st, hse⟩ : ∃ st, strOfNums (fl (burnS s 1) j).seen = st := ⟨_, rfl⟩
    have HSE := Aside0.mk hse
    rw [hse] at hst HA2 HW2 HV2
    clear hW hA hKV hkv hse
    go_wp2_with (fail)
    have hj8 : (j : Int) < 8 := by omega
    refine start_ (n := 14) (S := fun w' => w'.cell? ⟨x, j * 3, none⟩ = some (.string st) ∧ w'.cell? ⟨x, j * 3 + 1, none⟩ = some (.string ot) ∧ w'.frozen? ⟨x, j * 3 + 1, none⟩ = false) (ds := [13]) #[false, false, false, false, false, false, false, false, false, false, false, false, false, false] (by kernel_rfl) rfl rfl ⟨hst, hol, hfl⟩ (fun hHeld => ?_)
    refine pure_ (i := 0) (N := some 19) (v := ?_) (a' := ?_) #[true, false, false, false, false, false, false, false, false, false, false, false, false, false] rfl rfl (by kernel_rfl) (fun _ _ _ h => h) (Or.inl ⟨by rfl, ?_⟩) ?_ ?_
    rotate_left
    · intro w'
      go_simp
      with_reducible rfl
    rotate_left
    · simp only [Act.put, List.setIfInBounds_toArray, List.set_cons_zero, List.set_cons_succ, i64_w, i32_w]
      rfl
    refine pure_ (i := 1) (N := some 20) (v := ?_) (a' := ?_) #[true, true, false, false, false, false, false, false, false, false, false, false, false, false] rfl rfl (by kernel_rfl) (fun _ _ _ h => h) (Or.inl ⟨by rfl, ?_⟩) ?_ ?_
    rotate_left
    · intro w'
      go_simp
      with_reducible rfl
    rotate_left
    · simp only [Act.put, List.setIfInBounds_toArray, List.set_cons_zero, List.set_cons_succ, i64_w, i32_w]
      rfl
    refine pure_ (i := 2) (N := some 21) (v := ?_) (a' := ?_) #[true, true, true, false, false, false, false, false, false, false, false, false, false, false] rfl rfl (by kernel_rfl) (fun _ _ _ h => h) (Or.inl ⟨by rfl, ?_⟩) ?_ ?_
    rotate_left
    · intro w'
      go_simp
      with_reducible rfl
    rotate_left
    · simp only [Act.put, List.setIfInBounds_toArray, List.set_cons_zero, List.set_cons_succ, i64_w, i32_w]
      rfl
    refine pure_ (i := 3) (N := some 22) (v := ?_) (a' := ?_) #[true, true, true, true, false, false, false, false, false, false, false, false, false, false] rfl rfl (by kernel_rfl) (fun _ _ _ h => h) (Or.inl ⟨by rfl, ?_⟩) ?_ ?_
    rotate_left
    · intro w'
      go_simp
      with_reducible rfl
    rotate_left
    · simp only [Act.put, List.setIfInBounds_toArray, List.set_cons_zero, List.set_cons_succ, i64_w, i32_w]
      rfl
    refine pure_ (i := 4) (N := some 23) (v := ?_) (a' := ?_) #[true, true, true, true, true, false, false, false, false, false, false, false, false, false] rfl rfl (by kernel_rfl) (fun _ _ _ h => h) (Or.inl ⟨by rfl, ?_⟩) ?_ ?_
    rotate_left
    · intro w'
      go_simp
      with_reducible rfl
    rotate_left
    · simp only [Act.put, List.setIfInBounds_toArray, List.set_cons_zero, List.set_cons_succ, i64_w, i32_w]
      rfl
    refine pure_ (i := 5) (N := some 24) (v := ?_) (a' := ?_) #[true, true, true, true, true, true, false, false, false, false, false, false, false, false] rfl rfl (by kernel_rfl) (fun _ _ _ h => h) (Or.inl ⟨by rfl, ?_⟩) ?_ ?_
    rotate_left
    · intro w'
      go_simp
      with_reducible rfl
    rotate_left
    · simp only [Act.put, List.setIfInBounds_toArray, List.set_cons_zero, List.set_cons_succ, i64_w, i32_w]
      rfl
    refine pure_ (i := 6) (N := some 25) (v := ?_) (a' := ?_) #[true, true, true, true, true, true, true, false, false, false, false, false, false, false] rfl rfl (by kernel_rfl) (fun _ _ _ h => h) (Or.inl ⟨by rfl, ?_⟩) ?_ ?_
    rotate_left
    · intro w'
      go_simp
      with_reducible rfl
    rotate_left
    · simp only [Act.put, List.setIfInBounds_toArray, List.set_cons_zero, List.set_cons_succ, i64_w, i32_w]
      rfl
    refine pure_ (i := 7) (N := some 26) (v := ?_) (a' := ?_) #[true, true, true, true, true, true, true, true, false, false, false, false, false, false] rfl rfl (by kernel_rfl) (fun _ _ _ h => h) (Or.inl ⟨by rfl, ?_⟩) ?_ ?_
    rotate_left
    · intro w'
      go_simp
      with_reducible rfl
    rotate_left
    · simp only [Act.put, List.setIfInBounds_toArray, List.set_cons_zero, List.set_cons_succ, i64_w, i32_w]
      rfl
    refine pure_ (i := 9) (N := some 28) (v := ?_) (a' := ?_) #[true, true, true, true, true, true, true, true, false, true, false, false, false, false] rfl rfl (by kernel_rfl) (fun _ _ _ h => h) (Or.inl ⟨by rfl, ?_⟩) ?_ ?_
    rotate_left
    · intro w'
      go_simp
      with_reducible rfl
    rotate_left
    · simp only [Act.put, List.setIfInBounds_toArray, List.set_cons_zero, List.set_cons_succ, i64_w, i32_w]
      rfl
    refine pure_ (i := 10) (N := some 29) (v := ?_) (a' := ?_) #[true, true, true, true, true, true, true, true, false, true, true, false, false, false] rfl rfl (by kernel_rfl) (fun _ _ _ h => h) (Or.inl ⟨by rfl, ?_⟩) ?_ ?_
    rotate_left
    · intro w'
      go_simp
      with_reducible rfl
    rotate_left
    · simp only [Act.put, List.setIfInBounds_toArray, List.set_cons_zero, List.set_cons_succ, i64_w, i32_w]
      rfl
    refine take_ (i := 8) (N := some 27) (v := ?_) (a' := ?_) #[true, true, true, true, true, true, true, true, true, true, true, false, false, false] rfl rfl (by kernel_rfl) (fun _ _ _ h => h) (Or.inl ⟨by rfl, ?_⟩) hHeld ?_ ?_
    rotate_left
    · rintro w' ⟨s0, s1, s2⟩
      go_simp
      with_reducible rfl
    rotate_left
    · simp only [Act.put, List.setIfInBounds_toArray, List.set_cons_zero, List.set_cons_succ, i64_w, i32_w]
      rfl
    refine pure_ (i := 11) (N := some 30) (v := ?_) (a' := ?_) #[true, true, true, true, true, true, true, true, true, true, true, true, false, false] rfl rfl (by kernel_rfl) (fun _ _ _ h => h) (Or.inl ⟨by rfl, ?_⟩) ?_ ?_
    rotate_left
    · intro w'
      go_simp
      with_reducible rfl
    rotate_left
    · simp only [Act.put, List.setIfInBounds_toArray, List.set_cons_zero, List.set_cons_succ, i64_w, i32_w]
      rfl
    refine pure_ (i := 12) (N := some 31) (v := ?_) (a' := ?_) #[true, true, true, true, true, true, true, true, true, true, true, true, true, false] rfl rfl (by kernel_rfl) (fun _ _ _ h => h) (Or.inl ⟨by rfl, ?_⟩) ?_ ?_
    rotate_left
    · intro w'
      go_simp
      with_reducible rfl
    rotate_left
    · simp only [Act.put, List.setIfInBounds_toArray, List.set_cons_zero, List.set_cons_succ, i64_w, i32_w]
      rfl
    refine last_ (i := 13) (N := none) #[true, true, true, true, true, true, true, true, true, true, true, true, true, true] rfl rfl (by kernel_rfl) (by decide) (fun K hK => ?_)
    obtain ⟨hx0, hx1, hx2⟩ := hHeld
    refine skip_ (w1 := ?_) (by rfl) rfl ?_ ?_
    rotate_left
    · go_simp
      rfl
    refine hK.out _ _ ?_
    clear hK K
    refine done_ (by kernel_rfl) ?_
    generalize (w2.setCell ⟨x, j * 3 + 1, none⟩ (.string st)).drew = w5 at *
    clear hx0 hx1 hx2 hcc hfc hck hst hol hfl
    have hcc := HA2.out.cl hj
    have hfc := HA2.out.frozen (j * 3 + 2)
    generalize (XV.f _ j).cl = oc at hcc
    have HA5 := Aside0.mk (show AtX (w5.setCell ⟨x, j * 3 + 2, none⟩ (.bool false)) x (toXV (setF (burnS s 1) j ⟨(fl (burnS s 1) j).seen, (fl (burnS s 1) j).seen, false⟩) kv) by
      have h1 := HA2.out.clear hj false
      rw [len_fl (len_of HA2.out) hj] at h1
      exact h1)
    have HW5 := Aside0.mk (HW2.out.set (j * 3 + 2) (.bool false))
    have HIX := Aside0.mk (show IsX G (w5.setCell ⟨x, j * 3 + 2, none⟩ (.bool false)) x (setF (burnS s 1) j ⟨(fl (burnS s 1) j).seen, (fl (burnS s 1) j).seen, false⟩) from
      ⟨fun b hb => Nat.lt_of_lt_of_le (H.out.lt b hb) HW5.out.size, H.out.gg, kv, HA5.out, HV2.out.wr ((Wr.refl x w5).set (j * 3 + 2) (.bool false)) H.out.gg⟩)
    cases hst : struckP s 1 with
    | false =>
      have HST := Aside0.mk hst
      clear hst
      go_wp2_with (fail)
      go_ret
      rw [HAC.out, if_neg (show ¬ (struckP s 1 = true) by rw [HST.out]; decide)]
      exact ⟨rfl, HIX.out, HW5.out⟩
    | true =>
      have HST := Aside0.mk hst
      clear hst
      have hck2 : (w5.setCell ⟨x, j * 3 + 2, none⟩ (.bool false)).cell? ⟨x, 27, none⟩ = some (.slice A1 (burnS s 1).keep.length c1) := by rw [← HKE.out]; exact HA5.out.c27
      go_wp2_with (fail)
      obtain ⟨_, _, kv2, hA3, hK3⟩ := HIX.out
      have hkv2 : kv2 = kv := by
        have h1 := HA5.out.c27
        have h2 := hA3.c27
        rw [h1] at h2
        exact (Option.some.inj h2).symm
      subst hkv2
      have hK4 := hK3
      rw [HKE.out] at hK4
      replace hK4 : Rw G .i64 _ (.slice A1 (burnS s 1).keep.length c1) (burnS s 1).keep := hK4
      have HF := RFall_calls G x _ _ (burnS s 1).keep _ HIX.out HOKC.out (Rw.alone hK4 HIX.out.gg) (by rw [HKB.out.2.1]; exact HI64.out)
      refine HF.mono ?_
      rintro e w3 ⟨rfl, hI3, hW3⟩
      have HI3 := Aside0.mk hI3
      have HW3 := Aside0.mk (HW5.out.trans hW3)
      clear hI3 hW3 HF hK4 hA3 hK3
      go_wp2_with (fail)
      go_ret
      rw [HKB.out.2.1] at HI3
      rw [HAC.out, if_pos HST.out]
      exact ⟨rfl, HI3.out, HW3.out⟩
end Go.Proofs.Ytehjbhnlbjbhfaa.Rd
