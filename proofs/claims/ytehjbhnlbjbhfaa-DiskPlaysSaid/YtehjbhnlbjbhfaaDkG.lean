/- Contracts of the disk's act with what it does. -/
import Derived.Test.YtehjbhnlbjbhfaaDkE
namespace Go.Proofs.Ytehjbhnlbjbhfaa.Dk
open Go Go.RowKit Go.Proofs.YtehjbhnlbjbhfaaW.PrintWords Go.Proofs.YtehjbhnlbjbhfaaW.PrintLast Go.Proofs.YtehjbhnlbjbhfaaW.PrintMore
open Go.Proofs.Ytehjbhnlbjbhfaa.PDiskBegins
attribute [local go_sem] max2_int min2_int max_two min_two
set_option linter.unusedVariables false
set_option linter.unusedSimpArgs false
theorem Rw.one {G : Nat → Prop} {g : Nat} {k : IntKind} {W : World} {v : Value} {xs : List Int} (h : Rw G k W v xs) (hg : G g) : Rw (fun b => b = g) k W v xs := h.grow (fun b _ e => e ▸ hg)
theorem Wr.drew1 {g : Nat} {w w1 : World} (h : Wr g w w1) (n : Nat) : Wr g w (w1.drewN n) := ⟨h.os, h.tape, h.output, h.size, h.block⟩
set_option maxHeartbeats 8000000 in
set_option maxRecDepth 100000 in
theorem act47_calls (G : Nat → Prop) (g : Nat) (s : DS) (n : Nat) (done : DS → Nat → DS) (p1 p2 : Value) (w : World) (h : IsD G w g s) (hok : Ok s) (hn : n < 1000000000)
    (hdo : ∀ (s' : DS) (m : Nat) (w' : World), IsD G w' g s' → s'.fs = s.fs → Wr g w w' → m ≤ n → Calls Try.prog 73 #[.int .i64 (m : Int), p1, p2] w' fun e w'' => e = .returned (.tuple #[]) ∧ IsD G w'' g (done s' m) ∧ Wr g w' w'')
    (hok2 : Ok (done (burnS s n) (burnN s n))) (hkeep : (done (burnS s n) (burnN s n)).keep = s.keep) (hkr : ∀ x ∈ s.keep, -9223372036854775808 ≤ x ∧ x ≤ 9223372036854775807) :
    Calls Try.prog 64 #[.pointer (some ⟨g, 0, none⟩), .int .i64 (n : Int), .func (.func 73) #[] #[p1, p2]] w fun e w' => e = .returned (.int .i64 (actP s n done).2) ∧ IsD G w' g (actP s n done).1 ∧ Wr g w w' := by
  have H := Aside0.mk h
  have HOK := Aside0.mk hok
  have HDO := Aside0.mk hdo
  have HOK2 := Aside0.mk hok2
  have HKE := Aside0.mk hkeep
  have HKR := Aside0.mk hkr
  have HN := Aside0.mk hn
  obtain ⟨_, _, d, hA, hR⟩ := h
  have hc0 := hA.c0
  have hc1 := hA.c1
  rw [hR.1] at hc0
  rw [hR.2.1] at hc1
  have HB := Aside0.mk (burn_calls G g s n w H.out hok hn)
  have HML := Aside0.mk (show burnN s n ≤ n by
    unfold burnN
    split
    · rename_i c; have := hok.fuse c.1; omega
    · exact Nat.le_refl _)
  clear hA hR hok hdo hok2 hkeep hkr hn
  by_cases cs : s.set = true ∧ s.left ≤ (n : Int)
  · have HAP := Aside0.mk (show actP s n done = (fallP (done (burnS s n) (burnN s n)) s.keep, 50) by unfold actP; rw [if_pos (by unfold struckP; rw [cs.1, decide_eq_true cs.2]; rfl)])
    rw [HAP.out]
    rw [cs.1] at hc0
    have d1 : decide (s.left ≤ (n : Int)) = true := decide_eq_true cs.2
    clear cs
    go_enter Try.func64, Try.ntmps64
    go_wp2_with (fail)
    refine (HB.out).mono ?_
    rintro e w1 ⟨rfl, hI, hW⟩
    have HI := Aside0.mk hI
    have HW := Aside0.mk hW
    clear hI hW hc0 hc1
    go_wp2_with (fail)
    refine (HDO.out (burnS s n) (burnN s n) _ HI.out (by unfold burnS; split <;> rfl) HW.out HML.out).mono ?_
    rintro e w2 ⟨rfl, hI, hW⟩
    have HI2 := Aside0.mk hI
    have HW2 := Aside0.mk (HW.out.trans hW)
    clear hI hW HI HW
    obtain ⟨_, _, d2, hA2, hR2⟩ := HI2.out
    obtain ⟨A, c, hv, _, _⟩ := hR2.2.2.1.slice
    have hc2 := hA2.c2
    have HKV := Aside0.mk (hR2.2.2.1.one HI2.out.gg)
    rw [hv] at hc2 HKV
    rw [HKE.out] at hc2 HKV
    clear hA2 hR2 hv
    go_wp2_with (fail)
    refine (fall_calls G g _ _ s.keep _ HI2.out HOK2.out HKV.out HKR.out).mono ?_
    rintro e w3 ⟨rfl, hI, hW⟩
    have HI3 := Aside0.mk hI
    have HW3 := Aside0.mk (HW2.out.trans hW)
    clear hI hW hc2
    go_wp2
    go_ret
    exact ⟨rfl, HI3.out, HW3.out⟩
  · have HAP := Aside0.mk (show actP s n done = (done (burnS s n) (burnN s n), 0) by
      unfold actP
      rw [if_neg (by
        unfold struckP
        intro h
        rw [Bool.and_eq_true, decide_eq_true_eq] at h
        exact cs h)])
    rw [HAP.out]
    by_cases c1 : s.set = true
    case' pos =>
      rw [c1] at hc0
      have d1 : decide (s.left ≤ (n : Int)) = false := decide_eq_false (fun h => cs ⟨c1, h⟩)
    case' neg =>
      have c1' : s.set = false := by simpa using c1
      rw [c1'] at hc0
      clear c1'
    all_goals
      clear cs c1
      go_enter Try.func64, Try.ntmps64
      go_wp2_with (fail)
      refine (HB.out).mono ?_
      rintro e w1 ⟨rfl, hI, hW⟩
      have HI := Aside0.mk hI
      have HW := Aside0.mk hW
      clear hI hW hc0 hc1
      go_wp2_with (fail)
      refine (HDO.out (burnS s n) (burnN s n) _ HI.out (by unfold burnS; split <;> rfl) HW.out HML.out).mono ?_
      rintro e w2 ⟨rfl, hI, hW⟩
      have HI2 := Aside0.mk hI
      have HW2 := Aside0.mk (HW.out.trans hW)
      clear hI hW HI HW
      go_wp2
      go_ret
      exact ⟨rfl, HI2.out, HW2.out⟩
set_option maxHeartbeats 8000000 in
set_option maxRecDepth 100000 in
theorem act44_calls (G : Nat → Prop) (g : Nat) (s : DS) (n : Nat) (done : DS → Nat → DS) (p1 p2 : Value) (w : World) (h : IsD G w g s) (hok : Ok s) (hn : n < 1000000000)
    (hdo : ∀ (s' : DS) (m : Nat) (w' : World), IsD G w' g s' → s'.fs = s.fs → Wr g w w' → m ≤ n → Calls Try.prog 72 #[.int .i64 (m : Int), p1, p2] w' fun e w'' => e = .returned (.tuple #[]) ∧ IsD G w'' g (done s' m) ∧ Wr g w' w'')
    (hok2 : Ok (done (burnS s n) (burnN s n))) (hkeep : (done (burnS s n) (burnN s n)).keep = s.keep) (hkr : ∀ x ∈ s.keep, -9223372036854775808 ≤ x ∧ x ≤ 9223372036854775807) :
    Calls Try.prog 64 #[.pointer (some ⟨g, 0, none⟩), .int .i64 (n : Int), .func (.func 72) #[] #[p1, p2]] w fun e w' => e = .returned (.int .i64 (actP s n done).2) ∧ IsD G w' g (actP s n done).1 ∧ Wr g w w' := by
  have H := Aside0.mk h
  have HOK := Aside0.mk hok
  have HDO := Aside0.mk hdo
  have HOK2 := Aside0.mk hok2
  have HKE := Aside0.mk hkeep
  have HKR := Aside0.mk hkr
  have HN := Aside0.mk hn
  obtain ⟨_, _, d, hA, hR⟩ := h
  have hc0 := hA.c0
  have hc1 := hA.c1
  rw [hR.1] at hc0
  rw [hR.2.1] at hc1
  have HB := Aside0.mk (burn_calls G g s n w H.out hok hn)
  have HML := Aside0.mk (show burnN s n ≤ n by
    unfold burnN
    split
    · rename_i c; have := hok.fuse c.1; omega
    · exact Nat.le_refl _)
  clear hA hR hok hdo hok2 hkeep hkr hn
  by_cases cs : s.set = true ∧ s.left ≤ (n : Int)
  · have HAP := Aside0.mk (show actP s n done = (fallP (done (burnS s n) (burnN s n)) s.keep, 50) by unfold actP; rw [if_pos (by unfold struckP; rw [cs.1, decide_eq_true cs.2]; rfl)])
    rw [HAP.out]
    rw [cs.1] at hc0
    have d1 : decide (s.left ≤ (n : Int)) = true := decide_eq_true cs.2
    clear cs
    go_enter Try.func64, Try.ntmps64
    go_wp2_with (fail)
    refine (HB.out).mono ?_
    rintro e w1 ⟨rfl, hI, hW⟩
    have HI := Aside0.mk hI
    have HW := Aside0.mk hW
    clear hI hW hc0 hc1
    go_wp2_with (fail)
    refine (HDO.out (burnS s n) (burnN s n) _ HI.out (by unfold burnS; split <;> rfl) HW.out HML.out).mono ?_
    rintro e w2 ⟨rfl, hI, hW⟩
    have HI2 := Aside0.mk hI
    have HW2 := Aside0.mk (HW.out.trans hW)
    clear hI hW HI HW
    obtain ⟨_, _, d2, hA2, hR2⟩ := HI2.out
    obtain ⟨A, c, hv, _, _⟩ := hR2.2.2.1.slice
    have hc2 := hA2.c2
    have HKV := Aside0.mk (hR2.2.2.1.one HI2.out.gg)
    rw [hv] at hc2 HKV
    rw [HKE.out] at hc2 HKV
    clear hA2 hR2 hv
    go_wp2_with (fail)
    refine (fall_calls G g _ _ s.keep _ HI2.out HOK2.out HKV.out HKR.out).mono ?_
    rintro e w3 ⟨rfl, hI, hW⟩
    have HI3 := Aside0.mk hI
    have HW3 := Aside0.mk (HW2.out.trans hW)
    clear hI hW hc2
    go_wp2
    go_ret
    exact ⟨rfl, HI3.out, HW3.out⟩
  · have HAP := Aside0.mk (show actP s n done = (done (burnS s n) (burnN s n), 0) by
      unfold actP
      rw [if_neg (by
        unfold struckP
        intro h
        rw [Bool.and_eq_true, decide_eq_true_eq] at h
        exact cs h)])
    rw [HAP.out]
    by_cases c1 : s.set = true
    case' pos =>
      rw [c1] at hc0
      have d1 : decide (s.left ≤ (n : Int)) = false := decide_eq_false (fun h => cs ⟨c1, h⟩)
    case' neg =>
      have c1' : s.set = false := by simpa using c1
      rw [c1'] at hc0
      clear c1'
    all_goals
      clear cs c1
      go_enter Try.func64, Try.ntmps64
      go_wp2_with (fail)
      refine (HB.out).mono ?_
      rintro e w1 ⟨rfl, hI, hW⟩
      have HI := Aside0.mk hI
      have HW := Aside0.mk hW
      clear hI hW hc0 hc1
      go_wp2_with (fail)
      refine (HDO.out (burnS s n) (burnN s n) _ HI.out (by unfold burnS; split <;> rfl) HW.out HML.out).mono ?_
      rintro e w2 ⟨rfl, hI, hW⟩
      have HI2 := Aside0.mk hI
      have HW2 := Aside0.mk (HW.out.trans hW)
      clear hI hW HI HW
      go_wp2
      go_ret
      exact ⟨rfl, HI2.out, HW2.out⟩
set_option maxHeartbeats 8000000 in
set_option maxRecDepth 100000 in
theorem act46_calls (G : Nat → Prop) (g : Nat) (s : DS) (n : Nat) (done : DS → Nat → DS) (p1 p2 p3 : Value) (w : World) (h : IsD G w g s) (hok : Ok s) (hn : n < 1000000000)
    (hdo : ∀ (s' : DS) (m : Nat) (w' : World), IsD G w' g s' → s'.fs = s.fs → Wr g w w' → m ≤ n → Calls Try.prog 65 #[.int .i64 (m : Int), p1, p2, p3] w' fun e w'' => e = .returned (.tuple #[]) ∧ IsD G w'' g (done s' m) ∧ Wr g w' w'')
    (hok2 : Ok (done (burnS s n) (burnN s n))) (hkeep : (done (burnS s n) (burnN s n)).keep = s.keep) (hkr : ∀ x ∈ s.keep, -9223372036854775808 ≤ x ∧ x ≤ 9223372036854775807) :
    Calls Try.prog 64 #[.pointer (some ⟨g, 0, none⟩), .int .i64 (n : Int), .func (.func 65) #[] #[p1, p2, p3]] w fun e w' => e = .returned (.int .i64 (actP s n done).2) ∧ IsD G w' g (actP s n done).1 ∧ Wr g w w' := by
  have H := Aside0.mk h
  have HOK := Aside0.mk hok
  have HDO := Aside0.mk hdo
  have HOK2 := Aside0.mk hok2
  have HKE := Aside0.mk hkeep
  have HKR := Aside0.mk hkr
  have HN := Aside0.mk hn
  obtain ⟨_, _, d, hA, hR⟩ := h
  have hc0 := hA.c0
  have hc1 := hA.c1
  rw [hR.1] at hc0
  rw [hR.2.1] at hc1
  have HB := Aside0.mk (burn_calls G g s n w H.out hok hn)
  have HML := Aside0.mk (show burnN s n ≤ n by
    unfold burnN
    split
    · rename_i c; have := hok.fuse c.1; omega
    · exact Nat.le_refl _)
  clear hA hR hok hdo hok2 hkeep hkr hn
  by_cases cs : s.set = true ∧ s.left ≤ (n : Int)
  · have HAP := Aside0.mk (show actP s n done = (fallP (done (burnS s n) (burnN s n)) s.keep, 50) by unfold actP; rw [if_pos (by unfold struckP; rw [cs.1, decide_eq_true cs.2]; rfl)])
    rw [HAP.out]
    rw [cs.1] at hc0
    have d1 : decide (s.left ≤ (n : Int)) = true := decide_eq_true cs.2
    clear cs
    go_enter Try.func64, Try.ntmps64
    go_wp2_with (fail)
    refine (HB.out).mono ?_
    rintro e w1 ⟨rfl, hI, hW⟩
    have HI := Aside0.mk hI
    have HW := Aside0.mk hW
    clear hI hW hc0 hc1
    go_wp2_with (fail)
    refine (HDO.out (burnS s n) (burnN s n) _ HI.out (by unfold burnS; split <;> rfl) HW.out HML.out).mono ?_
    rintro e w2 ⟨rfl, hI, hW⟩
    have HI2 := Aside0.mk hI
    have HW2 := Aside0.mk (HW.out.trans hW)
    clear hI hW HI HW
    obtain ⟨_, _, d2, hA2, hR2⟩ := HI2.out
    obtain ⟨A, c, hv, _, _⟩ := hR2.2.2.1.slice
    have hc2 := hA2.c2
    have HKV := Aside0.mk (hR2.2.2.1.one HI2.out.gg)
    rw [hv] at hc2 HKV
    rw [HKE.out] at hc2 HKV
    clear hA2 hR2 hv
    go_wp2_with (fail)
    refine (fall_calls G g _ _ s.keep _ HI2.out HOK2.out HKV.out HKR.out).mono ?_
    rintro e w3 ⟨rfl, hI, hW⟩
    have HI3 := Aside0.mk hI
    have HW3 := Aside0.mk (HW2.out.trans hW)
    clear hI hW hc2
    go_wp2
    go_ret
    exact ⟨rfl, HI3.out, HW3.out⟩
  · have HAP := Aside0.mk (show actP s n done = (done (burnS s n) (burnN s n), 0) by
      unfold actP
      rw [if_neg (by
        unfold struckP
        intro h
        rw [Bool.and_eq_true, decide_eq_true_eq] at h
        exact cs h)])
    rw [HAP.out]
    by_cases c1 : s.set = true
    case' pos =>
      rw [c1] at hc0
      have d1 : decide (s.left ≤ (n : Int)) = false := decide_eq_false (fun h => cs ⟨c1, h⟩)
    case' neg =>
      have c1' : s.set = false := by simpa using c1
      rw [c1'] at hc0
      clear c1'
    all_goals
      clear cs c1
      go_enter Try.func64, Try.ntmps64
      go_wp2_with (fail)
      refine (HB.out).mono ?_
      rintro e w1 ⟨rfl, hI, hW⟩
      have HI := Aside0.mk hI
      have HW := Aside0.mk hW
      clear hI hW hc0 hc1
      go_wp2_with (fail)
      refine (HDO.out (burnS s n) (burnN s n) _ HI.out (by unfold burnS; split <;> rfl) HW.out HML.out).mono ?_
      rintro e w2 ⟨rfl, hI, hW⟩
      have HI2 := Aside0.mk hI
      have HW2 := Aside0.mk (HW.out.trans hW)
      clear hI hW HI HW
      go_wp2
      go_ret
      exact ⟨rfl, HI2.out, HW2.out⟩
end Go.Proofs.Ytehjbhnlbjbhfaa.Dk
