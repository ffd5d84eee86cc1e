/- Contracts of the document's disk: Crash, Arm, Clear. -/
import Derived.Test.YtehjbhnlbjbhfaaRdC
import Derived.Test.YtehjbhnlbjbhfaaDkI
namespace Go.Proofs.Ytehjbhnlbjbhfaa.Rd
open Go Go.RowKit Go.Proofs.YtehjbhnlbjbhfaaW.PrintWords Go.Proofs.YtehjbhnlbjbhfaaW.PrintLast Go.Proofs.YtehjbhnlbjbhfaaW.PrintMore Go.Proofs.Ytehjbhnlbjbhfaa.Dk
open Go.Proofs.Ytehjbhnlbjbhfaa.PDiskBegins
attribute [local go_sem] max2_int min2_int max_two min_two
set_option linter.unusedVariables false
set_option linter.unusedSimpArgs false
theorem IsX.drN {G : Nat → Prop} {x : Nat} {W : World} {s : DS} (h : IsX G W x s) (n : Nat) : IsX G (W.drewN n) x s := h.below (pw_below_drewN (Below.refl _ _) n)
theorem IsX.al {G : Nat → Prop} {x : Nat} {W : World} {s : DS} (h : IsX G W x s) (o : Obj) : IsX G (W.alloc o) x s := h.below (below_alloc (Below.refl _ _) o)
theorem IsX.ltg {G : Nat → Prop} {x : Nat} {W : World} {s : DS} (h : IsX G W x s) : x < W.heap.size := h.lt x h.gg
theorem able_may {s : DS} (h : s.room ≠ 0) : ∀ i, ableP s i = mayP s i := may_able h
theorem may0 (s : DS) : mayP s 0 = if s.off = true then 50 else 0 := by
  unfold mayP
  by_cases c : s.off = true
  · rw [if_pos c, if_pos c]
  · rw [if_neg c, if_neg c]; rfl
/-- A row told of all but one block. -/
theorem Rw.alone {G : Nat → Prop} {k : IntKind} {W : World} {v : Value} {xs : List Int} {x : Nat} (h : Rw G k W v xs) (hg : G x) : Rw (fun b => b = x) k W v xs := h.grow (fun b _ e => e ▸ hg)
set_option maxHeartbeats 8000000 in
set_option maxRecDepth 100000 in
theorem RCrash_calls (G : Nat → Prop) (x : Nat) (s : DS) (kV : Value) (keep : List Int) (w : World) (h : IsX G w x s) (hok : Okk s) (hr : s.room ≠ 0) (hk : Rw (fun b => b = x) .i64 w kV keep) (hkr : I64 keep) : Calls Try.prog 50 #[.pointer (some ⟨x, 0, none⟩), kV] w fun e w' => e = .returned (.int .i64 (crashP s keep).2) ∧ IsX G w' x (crashP s keep).1 ∧ Wr x w w' := by
  have H := Aside0.mk h
  have hf := Aside0.mk (RFall_calls G x s kV keep w h hok.1 hk hkr)
  have HE := Aside0.mk (show crashP s keep = if s.off = true then (s, 50) else (fallP s keep, 0) by
    unfold crashP; rw [able_may hr, may0]
    by_cases c : s.off = true
    · rw [if_pos c, if_pos c, if_pos (by decide)]
    · rw [if_neg c, if_neg c, if_neg (by decide)])
  obtain ⟨_, _, kv, hA, hR⟩ := h
  have hc25 : w.cell? ⟨x, 25, none⟩ = some (.bool s.off) := hA.c25
  obtain ⟨A0, c0, rfl, _, _⟩ := hk.slice
  clear hA hR hok hk hkr
  rw [HE.out]
  by_cases c : s.off = true
  · rw [if_pos c]
    rw [c] at hc25
    clear c
    go_enter Try.func50, Try.ntmps50
    go_wp2_with (fail)
    go_ret
    exact ⟨rfl, H.out, Wr.refl _ _⟩
  · rw [if_neg c]
    rw [show s.off = false by simpa using c] at hc25
    clear c
    go_enter Try.func50, Try.ntmps50
    go_wp2_with (fail)
    refine hf.out.mono ?_
    rintro e w1 ⟨rfl, hI, hW⟩
    have HI := Aside0.mk hI
    have HW := Aside0.mk hW
    clear hI hW
    go_wp2_with (fail)
    go_ret
    exact ⟨rfl, HI.out, HW.out⟩
set_option maxHeartbeats 8000000 in
set_option maxRecDepth 100000 in
theorem RClear_calls (G : Nat → Prop) (x : Nat) (s : DS) (i : Int) (w : World) (h : IsX G w x s) (hok : Okk s) (hr : s.room ≠ 0) : Calls Try.prog 56 #[.pointer (some ⟨x, 0, none⟩), .int .i64 i] w fun e w' => e = .returned (.int .i64 (clearP s i).2) ∧ IsX G w' x (clearP s i).1 ∧ Wr x w w' := by
  have H := Aside0.mk h
  have HOK := Aside0.mk hok
  have HAB := Aside0.mk (may_calls G x s i w h)
  rcases may_cases s i with c | ⟨c, j, hj, rfl, _⟩
  · have HR := Aside0.mk (show clearP s i = (s, mayP s i) by unfold clearP; rw [able_may hr, if_pos c])
    have c1 : (mayP s i != (0 : Int)) = true := by simpa using c
    have c2 : (mayP s i == (0 : Int)) = false := by simpa using c
    rw [HR.out]
    clear h c HR hok
    generalize mayP s i = er at *
    go_enter Try.func56, Try.ntmps56
    go_wp2_with (fail)
    refine (HAB.out).mono ?_
    rintro e w1 ⟨rfl, ⟨nd, rfl⟩⟩
    go_wp2_with (fail)
    go_ret
    exact ⟨rfl, H.out.drN nd, (Wr.refl x w).drew1 nd⟩
  · have HR := Aside0.mk (show clearP s (j : Int) = actP s 1 (doneC j) by unfold clearP; rw [able_may hr, if_neg (by rw [c]; decide), Int.toNat_natCast])
    rw [c] at HAB
    rw [HR.out]
    have HB1 := Aside0.mk (show burnN s 1 = 1 by
      unfold burnN
      by_cases cs : s.set = true ∧ s.left ≤ ((1 : Nat) : Int)
      · rw [if_pos cs]; have := hok.1.fuse cs.1; omega
      · rw [if_neg cs])
    have HAC := Aside0.mk (show actP s 1 (doneC j) = if struckP s 1 = true then (fallP (setF (burnS s 1) j ⟨[], (fl (burnS s 1) j).lasts, true⟩) s.keep, 50) else (setF (burnS s 1) j ⟨[], (fl (burnS s 1) j).lasts, true⟩, 0) by
      unfold actP; rw [HB1.out]; unfold doneC; rw [if_pos rfl])
    obtain ⟨r, hrr⟩ : ∃ r, actP s 1 (doneC j) = r := ⟨_, rfl⟩
    rw [hrr] at HAC ⊢
    clear hrr
    have HBU := Aside0.mk (burn_calls G x s 1 (w.drewN 0) (H.out.drN 0) hok.1 (by decide))
    have HOKB := Aside0.mk (hok.1.burn 1)
    have HKB := Aside0.mk (burn_fs s 1)
    have HOKC := Aside0.mk (show Ok (setF (burnS s 1) j ⟨[], (fl (burnS s 1) j).lasts, true⟩) by
      have := (hok.1.burn 1).doneC hj 1
      unfold doneC at this; rw [if_pos rfl] at this; exact this)
    have HJ := Aside0.mk hj
    have HI64 := Aside0.mk hok.2
    clear h c HR hok
    go_enter Try.func56, Try.ntmps56
    go_wp2_with (fail)
    refine (HAB.out).mono ?_
    rintro e w1 ⟨rfl, ⟨nd, rfl⟩⟩
    go_wp2_with (fail)
    refine (burn_calls G x s 1 _ (H.out.drN nd) HOK.out.1 (by decide)).mono ?_
    rintro e w2 ⟨rfl, hI, hW⟩
    have HI := Aside0.mk hI
    have HW := Aside0.mk (((Wr.refl x w).drew1 nd).trans hW)
    obtain ⟨_, _, kv, hA, hKV⟩ := hI
    have HA := Aside0.mk hA
    have HKV := Aside0.mk hKV
    have hct := hA.told hj
    have hft := hA.frozen (j * 3)
    have hcc := hA.cl hj
    have hfc := hA.frozen (j * 3 + 2)
    have hck : w2.cell? ⟨x, 27, none⟩ = some kv := hA.c27
    obtain ⟨A1, c1, hkv, _, _⟩ := hKV.slice
    rw [hkv] at hck
    have HKE := Aside0.mk hkv
    generalize (XV.f _ j).told = ot at hct
    generalize (XV.f _ j).cl = oc at hcc
    have HA2 := Aside0.mk (show AtX ((w2.setCell ⟨x, j * 3, none⟩ (.string (strOfNums []))).setCell ⟨x, j * 3 + 2, none⟩ (.bool true)) x (toXV (setF (burnS s 1) j ⟨[], (fl (burnS s 1) j).lasts, true⟩) kv) by
      have h1 := hA.tell hj []
      have h2 := h1.clear hj true
      rw [fl_set _ (len_of hA) hj, set_set] at h2
      exact h2)
    have HW2 := Aside0.mk ((HW.out.set (j * 3) (.string (strOfNums []))).set (j * 3 + 2) (.bool true))
    have hse : (ByteArray.mk #[]) = strOfNums [] := rfl
    have HIX := Aside0.mk (show IsX G ((w2.setCell ⟨x, j * 3, none⟩ (.string (strOfNums []))).setCell ⟨x, j * 3 + 2, none⟩ (.bool true)) x (setF (burnS s 1) j ⟨[], (fl (burnS s 1) j).lasts, true⟩) from
      ⟨fun b hb => Nat.lt_of_lt_of_le (HI.out.lt b hb) (by simp), HI.out.gg, kv, HA2.out, HKV.out.wr (((Wr.refl x w2).set (j * 3) (.string (strOfNums []))).set (j * 3 + 2) (.bool true)) HI.out.gg⟩)
    clear hW hA hKV hkv
    cases hst : struckP s 1 with
    | false =>
      have HST := Aside0.mk hst
      clear hst
      go_wp2_with (fail)
      go_ret
      rw [HAC.out, if_neg (show ¬ (struckP s 1 = true) by rw [HST.out]; decide)]
      exact ⟨rfl, HIX.out, HW2.out⟩
    | true =>
      have HST := Aside0.mk hst
      clear hst
      have hck2 : ((w2.setCell ⟨x, j * 3, none⟩ (.string (strOfNums []))).setCell ⟨x, j * 3 + 2, none⟩ (.bool true)).cell? ⟨x, 27, none⟩ = some (.slice A1 (burnS s 1).keep.length c1) := by rw [← HKE.out]; exact HA2.out.c27
      go_wp2_with (fail)
      obtain ⟨_, _, kv2, hA3, hK3⟩ := HIX.out
      have hkv2 : kv2 = kv := by
        have h1 := HA2.out.c27
        have h2 := hA3.c27
        rw [h1] at h2
        exact (Option.some.inj h2).symm
      subst hkv2
      have hK4 := hK3
      rw [HKE.out] at hK4
      replace hK4 : Rw G .i64 _ (.slice A1 (burnS s 1).keep.length c1) (burnS s 1).keep := hK4
      have HF := RFall_calls G x _ _ (burnS s 1).keep _ HIX.out HOKC.out (Rw.alone hK4 HIX.out.gg) (by rw [HKB.out.2.1]; exact HI64.out)
      refine HF.mono ?_
      rintro e w3 ⟨rfl, hI3, hW3⟩
      have HI3 := Aside0.mk hI3
      have HW3 := Aside0.mk (HW2.out.trans hW3)
      clear hI3 hW3 HF hK4 hA3 hK3
      go_wp2_with (fail)
      go_ret
      rw [HKB.out.2.1] at HI3
      rw [HAC.out, if_pos HST.out]
      exact ⟨rfl, HI3.out, HW3.out⟩
end Go.Proofs.Ytehjbhnlbjbhfaa.Rd
