/- Texts that the row of LawTapeKept rests on, part 7 of 12: contracts of the functions, their walks, plain laws. -/
import Derived.Test.YtehjbhnlbjbhfaaBnTapeKept6
import Derived.RegionTactic
import Derived.ChangeAlike
-- DkF
namespace Go.Proofs.Ytehjbhnlbjbhfaa.Dk
open Go Go.RowKit Go.Proofs.YtehjbhnlbjbhfaaW.PrintWords Go.Proofs.YtehjbhnlbjbhfaaW.PrintLast Go.Proofs.YtehjbhnlbjbhfaaW.PrintMore
open Go.Proofs.Ytehjbhnlbjbhfaa.PDiskBegins
attribute [local go_sem] max2_int min2_int max_two min_two
set_option linter.unusedVariables false
set_option linter.unusedSimpArgs false
theorem f_set (d : DV) (x : FV) {i : Nat} (hd : d.fs.length = 8) (hi : i < 8) : (DV.f { d with fs := d.fs.set i x } i) = x := by
  unfold DV.f
  rw [List.getD_eq_getElem?_getD, List.getElem?_set_self (by rw [hd]; exact hi)]; rfl
theorem At.setSC {W : World} {g : Nat} {d : DV} (h : At W g d) {i : Nat} (hi : i < 8) (v : Value) (b : Bool) : At ((W.setCell ⟨g, 3 + i * 3, none⟩ v).setCell ⟨g, 3 + i * 3 + 2, none⟩ (.bool b)) g { d with fs := d.fs.set i ⟨v, (d.f i).lv, b⟩ } := by
  have h3 := (h.setS hi v).setC hi b
  rw [f_set d _ h.1 hi] at h3
  simpa only [List.set_set] using h3
theorem At.setLC {W : World} {g : Nat} {d : DV} (h : At W g d) {i : Nat} (hi : i < 8) (v : Value) (b : Bool) : At ((W.setCell ⟨g, 3 + i * 3 + 1, none⟩ v).setCell ⟨g, 3 + i * 3 + 2, none⟩ (.bool b)) g { d with fs := d.fs.set i ⟨(d.f i).sv, v, b⟩ } := by
  have h3 := (h.setL hi v).setC hi b
  rw [f_set d _ h.1 hi] at h3
  simpa only [List.set_set] using h3
theorem At.drew {W : World} {g : Nat} {d : DV} (h : At W g d) : At W.drew g d := h
theorem Wr.drew {g : Nat} {w w1 : World} (h : Wr g w w1) : Wr g w w1.drew := ⟨h.os, h.tape, h.output, h.size, h.block⟩
theorem IsD.file {G : Nat → Prop} {g : Nat} {W W' : World} {d : DV} {s : DS} {i : Nat} {v : FV} {f : Fl} (h : IsD G W g s) (hA : d.fs.length = 8) (hR : Rows G W d s) (hi : i < 8) (hA' : At W' g { d with fs := d.fs.set i v }) (hw : Wr g W W') (hf : FR G W' v f) : IsD G W' g (setF s i f) :=
  ⟨fun b hb => Nat.lt_of_lt_of_le (h.lt b hb) hw.size, h.gg, _, hA', (hR.wr hw h.gg).file hA hi hf rfl rfl⟩
set_option maxHeartbeats 8000000 in
set_option maxRecDepth 100000 in
theorem c47_calls (G : Nat → Prop) (g : Nat) (s : DS) (i n : Nat) (b1 b2 : Nat) (w : World) (h : IsD G w g s) (hi : i < 8) (h1 : w.cell? ⟨b1, 0, none⟩ = some (.pointer (some ⟨g, 0, none⟩))) (h2 : w.cell? ⟨b2, 0, none⟩ = some (.int .i64 (i : Int))) (n1 : b1 ≠ g) (n2 : b2 ≠ g) :
    Calls Try.prog 73 #[.int .i64 (n : Int), .pointer (some ⟨b1, 0, none⟩), .pointer (some ⟨b2, 0, none⟩)] w fun e w' => e = .returned (.tuple #[]) ∧ IsD G w' g (doneC i s n) ∧ Wr g w w' := by
  have H := Aside0.mk h
  obtain ⟨_, _, d, hA, hR⟩ := h
  have HA := Aside0.mk hA
  have HR := Aside0.mk hR
  by_cases c : n = 1
  · have HD := Aside0.mk (show doneC i s n = setF s i ⟨[], (fl s i).lasts, true⟩ by unfold doneC; rw [if_pos c])
    rw [HD.out]
    subst c
    rw [show ((1 : Nat) : Int) = 1 from rfl]
    obtain ⟨A, cc, hv, _, _⟩ := (hR.2.2.2.2.2.2 i hi).1.slice
    obtain ⟨B, bb, hx, _, _⟩ := (hR.2.2.2.2.2.2 i hi).2.1.slice
    have HV := Aside0.mk hv
    have hs := hA.sv hi
    have hl := hA.lv hi
    rw [hv] at hs
    rw [hx] at hl
    have hc := hA.cl hi
    have hfs := hA.frozen (3 + i * 3)
    have hfl := hA.frozen (3 + i * 3 + 1)
    have hfc := hA.frozen (3 + i * 3 + 2)
    clear hA hR hv hx
    go_enter Try.func73, Try.ntmps73
    go_wp2
    go_region
    first | go_end0 | ((try simp only [Exit.inBlock, Exit.then]); refine bodyPost_ret (results_none rfl _ _ _) rfl ?_)
    have hw := (((Wr.refl g w).set (3 + i * 3) (.slice none 0 0)).set (3 + i * 3 + 2) (.bool true)).drew
    refine ⟨rfl, H.out.file HA.out.1 HR.out hi (HA.out.setSC hi (.slice none 0 0) true).drew hw ?_, hw⟩
    exact ⟨Rw.nil _ _ _, (HR.out.2.2.2.2.2.2 i hi).2.1.wr hw H.out.gg, rfl⟩
  · have HD := Aside0.mk (show doneC i s n = s by unfold doneC; rw [if_neg c])
    rw [HD.out]
    have c1 : ((n : Int) == (1 : Int)) = false := by simp only [beq_eq_false_iff_ne]; omega
    have c2 : decide (n = 1) = false := decide_eq_false c
    clear c hA hR
    go_enter Try.func73, Try.ntmps73
    go_wp2
    first | go_end0 | ((try simp only [Exit.inBlock, Exit.then]); refine bodyPost_ret (results_none rfl _ _ _) rfl ?_)
    exact ⟨rfl, H.out, Wr.refl _ _⟩
set_option maxHeartbeats 8000000 in
set_option maxRecDepth 100000 in
theorem c44_calls (G : Nat → Prop) (g : Nat) (s : DS) (i n : Nat) (b1 b2 : Nat) (w : World) (h : IsD G w g s) (hi : i < 8) (h1 : w.cell? ⟨b1, 0, none⟩ = some (.pointer (some ⟨g, 0, none⟩))) (h2 : w.cell? ⟨b2, 0, none⟩ = some (.int .i64 (i : Int))) (n1 : b1 ≠ g) (n2 : b2 ≠ g) :
    Calls Try.prog 72 #[.int .i64 (n : Int), .pointer (some ⟨b1, 0, none⟩), .pointer (some ⟨b2, 0, none⟩)] w fun e w' => e = .returned (.tuple #[]) ∧ IsD G w' g (doneY i s n) ∧ Wr g w w' := by
  have H := Aside0.mk h
  obtain ⟨_, _, d, hA, hR⟩ := h
  have HA := Aside0.mk hA
  have HR := Aside0.mk hR
  by_cases c : n = 1
  · have HD := Aside0.mk (show doneY i s n = setF s i ⟨(fl s i).seen, (fl s i).seen, false⟩ by unfold doneY; rw [if_pos c])
    rw [HD.out]
    subst c
    rw [show ((1 : Nat) : Int) = 1 from rfl]
    obtain ⟨A, cc, hv, _, _⟩ := (hR.2.2.2.2.2.2 i hi).1.slice
    obtain ⟨B, bb, hx, _, _⟩ := (hR.2.2.2.2.2.2 i hi).2.1.slice
    have HV := Aside0.mk hv
    have hs := hA.sv hi
    have hl := hA.lv hi
    rw [hv] at hs
    rw [hx] at hl
    have hc := hA.cl hi
    have hfs := hA.frozen (3 + i * 3)
    have hfl := hA.frozen (3 + i * 3 + 1)
    have hfc := hA.frozen (3 + i * 3 + 2)
    clear hA hR hv hx
    go_enter Try.func72, Try.ntmps72
    go_wp2
    go_region
    first | go_end0 | ((try simp only [Exit.inBlock, Exit.then]); refine bodyPost_ret (results_none rfl _ _ _) rfl ?_)
    have hw := (((Wr.refl g w).set (3 + i * 3 + 1) (.slice A (fl s i).seen.length cc)).set (3 + i * 3 + 2) (.bool false)).drew
    refine ⟨rfl, H.out.file HA.out.1 HR.out hi (HA.out.setLC hi (.slice A (fl s i).seen.length cc) false).drew hw ?_, hw⟩
    exact ⟨(HR.out.2.2.2.2.2.2 i hi).1.wr hw H.out.gg, by have h9 := (HR.out.2.2.2.2.2.2 i hi).1; rw [HV.out] at h9; exact h9.wr hw H.out.gg, rfl⟩
  · have HD := Aside0.mk (show doneY i s n = s by unfold doneY; rw [if_neg c])
    rw [HD.out]
    have c1 : ((n : Int) == (1 : Int)) = false := by simp only [beq_eq_false_iff_ne]; omega
    have c2 : decide (n = 1) = false := decide_eq_false c
    clear c hA hR
    go_enter Try.func72, Try.ntmps72
    go_wp2
    first | go_end0 | ((try simp only [Exit.inBlock, Exit.then]); refine bodyPost_ret (results_none rfl _ _ _) rfl ?_)
    exact ⟨rfl, H.out, Wr.refl _ _⟩
end Go.Proofs.Ytehjbhnlbjbhfaa.Dk
-- DkG
namespace Go.Proofs.Ytehjbhnlbjbhfaa.Dk
open Go Go.RowKit Go.Proofs.YtehjbhnlbjbhfaaW.PrintWords Go.Proofs.YtehjbhnlbjbhfaaW.PrintLast Go.Proofs.YtehjbhnlbjbhfaaW.PrintMore
open Go.Proofs.Ytehjbhnlbjbhfaa.PDiskBegins
attribute [local go_sem] max2_int min2_int max_two min_two
set_option linter.unusedVariables false
set_option linter.unusedSimpArgs false
theorem Rw.one {G : Nat → Prop} {g : Nat} {k : IntKind} {W : World} {v : Value} {xs : List Int} (h : Rw G k W v xs) (hg : G g) : Rw (fun b => b = g) k W v xs := h.grow (fun b _ e => e ▸ hg)
theorem Wr.drew1 {g : Nat} {w w1 : World} (h : Wr g w w1) (n : Nat) : Wr g w (w1.drewN n) := ⟨h.os, h.tape, h.output, h.size, h.block⟩
set_option maxHeartbeats 8000000 in
set_option maxRecDepth 100000 in
theorem act47_calls (G : Nat → Prop) (g : Nat) (s : DS) (n : Nat) (done : DS → Nat → DS) (p1 p2 : Value) (w : World) (h : IsD G w g s) (hok : Ok s) (hn : n < 1000000000)
    (hdo : ∀ (s' : DS) (m : Nat) (w' : World), IsD G w' g s' → s'.fs = s.fs → Wr g w w' → m ≤ n → Calls Try.prog 73 #[.int .i64 (m : Int), p1, p2] w' fun e w'' => e = .returned (.tuple #[]) ∧ IsD G w'' g (done s' m) ∧ Wr g w' w'')
    (hok2 : Ok (done (burnS s n) (burnN s n))) (hkeep : (done (burnS s n) (burnN s n)).keep = s.keep) (hkr : ∀ x ∈ s.keep, -9223372036854775808 ≤ x ∧ x ≤ 9223372036854775807) :
    Calls Try.prog 64 #[.pointer (some ⟨g, 0, none⟩), .int .i64 (n : Int), .func (.func 73) #[] #[p1, p2]] w fun e w' => e = .returned (.int .i64 (actP s n done).2) ∧ IsD G w' g (actP s n done).1 ∧ Wr g w w' := by
  have H := Aside0.mk h
  have HOK := Aside0.mk hok
  have HDO := Aside0.mk hdo
  have HOK2 := Aside0.mk hok2
  have HKE := Aside0.mk hkeep
  have HKR := Aside0.mk hkr
  have HN := Aside0.mk hn
  obtain ⟨_, _, d, hA, hR⟩ := h
  have hc0 := hA.c0
  have hc1 := hA.c1
  rw [hR.1] at hc0
  rw [hR.2.1] at hc1
  have HB := Aside0.mk (burn_calls G g s n w H.out hok hn)
  have HML := Aside0.mk (show burnN s n ≤ n by
    unfold burnN
    split
    · rename_i c; have := hok.fuse c.1; omega
    · exact Nat.le_refl _)
  clear hA hR hok hdo hok2 hkeep hkr hn
  by_cases cs : s.set = true ∧ s.left ≤ (n : Int)
  · have HAP := Aside0.mk (show actP s n done = (fallP (done (burnS s n) (burnN s n)) s.keep, 50) by unfold actP; rw [if_pos (by unfold struckP; rw [cs.1, decide_eq_true cs.2]; rfl)])
    rw [HAP.out]
    rw [cs.1] at hc0
    have d1 : decide (s.left ≤ (n : Int)) = true := decide_eq_true cs.2
    clear cs
    go_enter Try.func64, Try.ntmps64
    go_wp2_with (fail)
    refine (HB.out).mono ?_
    rintro e w1 ⟨rfl, hI, hW⟩
    have HI := Aside0.mk hI
    have HW := Aside0.mk hW
    clear hI hW hc0 hc1
    go_wp2_with (fail)
    refine (HDO.out (burnS s n) (burnN s n) _ HI.out (by unfold burnS; split <;> rfl) HW.out HML.out).mono ?_
    rintro e w2 ⟨rfl, hI, hW⟩
    have HI2 := Aside0.mk hI
    have HW2 := Aside0.mk (HW.out.trans hW)
    clear hI hW HI HW
    obtain ⟨_, _, d2, hA2, hR2⟩ := HI2.out
    obtain ⟨A, c, hv, _, _⟩ := hR2.2.2.1.slice
    have hc2 := hA2.c2
    have HKV := Aside0.mk (hR2.2.2.1.one HI2.out.gg)
    rw [hv] at hc2 HKV
    rw [HKE.out] at hc2 HKV
    clear hA2 hR2 hv
    go_wp2_with (fail)
    refine (fall_calls G g _ _ s.keep _ HI2.out HOK2.out HKV.out HKR.out).mono ?_
    rintro e w3 ⟨rfl, hI, hW⟩
    have HI3 := Aside0.mk hI
    have HW3 := Aside0.mk (HW2.out.trans hW)
    clear hI hW hc2
    go_wp2
    go_ret
    exact ⟨rfl, HI3.out, HW3.out⟩
  · have HAP := Aside0.mk (show actP s n done = (done (burnS s n) (burnN s n), 0) by
      unfold actP
      rw [if_neg (by
        unfold struckP
        intro h
        rw [Bool.and_eq_true, decide_eq_true_eq] at h
        exact cs h)])
    rw [HAP.out]
    by_cases c1 : s.set = true
    case' pos =>
      rw [c1] at hc0
      have d1 : decide (s.left ≤ (n : Int)) = false := decide_eq_false (fun h => cs ⟨c1, h⟩)
    case' neg =>
      have c1' : s.set = false := by simpa using c1
      rw [c1'] at hc0
      clear c1'
    all_goals
      clear cs c1
      go_enter Try.func64, Try.ntmps64
      go_wp2_with (fail)
      refine (HB.out).mono ?_
      rintro e w1 ⟨rfl, hI, hW⟩
      have HI := Aside0.mk hI
      have HW := Aside0.mk hW
      clear hI hW hc0 hc1
      go_wp2_with (fail)
      refine (HDO.out (burnS s n) (burnN s n) _ HI.out (by unfold burnS; split <;> rfl) HW.out HML.out).mono ?_
      rintro e w2 ⟨rfl, hI, hW⟩
      have HI2 := Aside0.mk hI
      have HW2 := Aside0.mk (HW.out.trans hW)
      clear hI hW HI HW
      go_wp2
      go_ret
      exact ⟨rfl, HI2.out, HW2.out⟩
set_option maxHeartbeats 8000000 in
set_option maxRecDepth 100000 in
theorem act44_calls (G : Nat → Prop) (g : Nat) (s : DS) (n : Nat) (done : DS → Nat → DS) (p1 p2 : Value) (w : World) (h : IsD G w g s) (hok : Ok s) (hn : n < 1000000000)
    (hdo : ∀ (s' : DS) (m : Nat) (w' : World), IsD G w' g s' → s'.fs = s.fs → Wr g w w' → m ≤ n → Calls Try.prog 72 #[.int .i64 (m : Int), p1, p2] w' fun e w'' => e = .returned (.tuple #[]) ∧ IsD G w'' g (done s' m) ∧ Wr g w' w'')
    (hok2 : Ok (done (burnS s n) (burnN s n))) (hkeep : (done (burnS s n) (burnN s n)).keep = s.keep) (hkr : ∀ x ∈ s.keep, -9223372036854775808 ≤ x ∧ x ≤ 9223372036854775807) :
    Calls Try.prog 64 #[.pointer (some ⟨g, 0, none⟩), .int .i64 (n : Int), .func (.func 72) #[] #[p1, p2]] w fun e w' => e = .returned (.int .i64 (actP s n done).2) ∧ IsD G w' g (actP s n done).1 ∧ Wr g w w' := by
  have H := Aside0.mk h
  have HOK := Aside0.mk hok
  have HDO := Aside0.mk hdo
  have HOK2 := Aside0.mk hok2
  have HKE := Aside0.mk hkeep
  have HKR := Aside0.mk hkr
  have HN := Aside0.mk hn
  obtain ⟨_, _, d, hA, hR⟩ := h
  have hc0 := hA.c0
  have hc1 := hA.c1
  rw [hR.1] at hc0
  rw [hR.2.1] at hc1
  have HB := Aside0.mk (burn_calls G g s n w H.out hok hn)
  have HML := Aside0.mk (show burnN s n ≤ n by
    unfold burnN
    split
    · rename_i c; have := hok.fuse c.1; omega
    · exact Nat.le_refl _)
  clear hA hR hok hdo hok2 hkeep hkr hn
  by_cases cs : s.set = true ∧ s.left ≤ (n : Int)
  · have HAP := Aside0.mk (show actP s n done = (fallP (done (burnS s n) (burnN s n)) s.keep, 50) by unfold actP; rw [if_pos (by unfold struckP; rw [cs.1, decide_eq_true cs.2]; rfl)])
    rw [HAP.out]
    rw [cs.1] at hc0
    have d1 : decide (s.left ≤ (n : Int)) = true := decide_eq_true cs.2
    clear cs
    go_enter Try.func64, Try.ntmps64
    go_wp2_with (fail)
    refine (HB.out).mono ?_
    rintro e w1 ⟨rfl, hI, hW⟩
    have HI := Aside0.mk hI
    have HW := Aside0.mk hW
    clear hI hW hc0 hc1
    go_wp2_with (fail)
    refine (HDO.out (burnS s n) (burnN s n) _ HI.out (by unfold burnS; split <;> rfl) HW.out HML.out).mono ?_
    rintro e w2 ⟨rfl, hI, hW⟩
    have HI2 := Aside0.mk hI
    have HW2 := Aside0.mk (HW.out.trans hW)
    clear hI hW HI HW
    obtain ⟨_, _, d2, hA2, hR2⟩ := HI2.out
    obtain ⟨A, c, hv, _, _⟩ := hR2.2.2.1.slice
    have hc2 := hA2.c2
    have HKV := Aside0.mk (hR2.2.2.1.one HI2.out.gg)
    rw [hv] at hc2 HKV
    rw [HKE.out] at hc2 HKV
    clear hA2 hR2 hv
    go_wp2_with (fail)
    refine (fall_calls G g _ _ s.keep _ HI2.out HOK2.out HKV.out HKR.out).mono ?_
    rintro e w3 ⟨rfl, hI, hW⟩
    have HI3 := Aside0.mk hI
    have HW3 := Aside0.mk (HW2.out.trans hW)
    clear hI hW hc2
    go_wp2
    go_ret
    exact ⟨rfl, HI3.out, HW3.out⟩
  · have HAP := Aside0.mk (show actP s n done = (done (burnS s n) (burnN s n), 0) by
      unfold actP
      rw [if_neg (by
        unfold struckP
        intro h
        rw [Bool.and_eq_true, decide_eq_true_eq] at h
        exact cs h)])
    rw [HAP.out]
    by_cases c1 : s.set = true
    case' pos =>
      rw [c1] at hc0
      have d1 : decide (s.left ≤ (n : Int)) = false := decide_eq_false (fun h => cs ⟨c1, h⟩)
    case' neg =>
      have c1' : s.set = false := by simpa using c1
      rw [c1'] at hc0
      clear c1'
    all_goals
      clear cs c1
      go_enter Try.func64, Try.ntmps64
      go_wp2_with (fail)
      refine (HB.out).mono ?_
      rintro e w1 ⟨rfl, hI, hW⟩
      have HI := Aside0.mk hI
      have HW := Aside0.mk hW
      clear hI hW hc0 hc1
      go_wp2_with (fail)
      refine (HDO.out (burnS s n) (burnN s n) _ HI.out (by unfold burnS; split <;> rfl) HW.out HML.out).mono ?_
      rintro e w2 ⟨rfl, hI, hW⟩
      have HI2 := Aside0.mk hI
      have HW2 := Aside0.mk (HW.out.trans hW)
      clear hI hW HI HW
      go_wp2
      go_ret
      exact ⟨rfl, HI2.out, HW2.out⟩
set_option maxHeartbeats 8000000 in
set_option maxRecDepth 100000 in
theorem act46_calls (G : Nat → Prop) (g : Nat) (s : DS) (n : Nat) (done : DS → Nat → DS) (p1 p2 p3 : Value) (w : World) (h : IsD G w g s) (hok : Ok s) (hn : n < 1000000000)
    (hdo : ∀ (s' : DS) (m : Nat) (w' : World), IsD G w' g s' → s'.fs = s.fs → Wr g w w' → m ≤ n → Calls Try.prog 65 #[.int .i64 (m : Int), p1, p2, p3] w' fun e w'' => e = .returned (.tuple #[]) ∧ IsD G w'' g (done s' m) ∧ Wr g w' w'')
    (hok2 : Ok (done (burnS s n) (burnN s n))) (hkeep : (done (burnS s n) (burnN s n)).keep = s.keep) (hkr : ∀ x ∈ s.keep, -9223372036854775808 ≤ x ∧ x ≤ 9223372036854775807) :
    Calls Try.prog 64 #[.pointer (some ⟨g, 0, none⟩), .int .i64 (n : Int), .func (.func 65) #[] #[p1, p2, p3]] w fun e w' => e = .returned (.int .i64 (actP s n done).2) ∧ IsD G w' g (actP s n done).1 ∧ Wr g w w' := by
  have H := Aside0.mk h
  have HOK := Aside0.mk hok
  have HDO := Aside0.mk hdo
  have HOK2 := Aside0.mk hok2
  have HKE := Aside0.mk hkeep
  have HKR := Aside0.mk hkr
  have HN := Aside0.mk hn
  obtain ⟨_, _, d, hA, hR⟩ := h
  have hc0 := hA.c0
  have hc1 := hA.c1
  rw [hR.1] at hc0
  rw [hR.2.1] at hc1
  have HB := Aside0.mk (burn_calls G g s n w H.out hok hn)
  have HML := Aside0.mk (show burnN s n ≤ n by
    unfold burnN
    split
    · rename_i c; have := hok.fuse c.1; omega
    · exact Nat.le_refl _)
  clear hA hR hok hdo hok2 hkeep hkr hn
  by_cases cs : s.set = true ∧ s.left ≤ (n : Int)
  · have HAP := Aside0.mk (show actP s n done = (fallP (done (burnS s n) (burnN s n)) s.keep, 50) by unfold actP; rw [if_pos (by unfold struckP; rw [cs.1, decide_eq_true cs.2]; rfl)])
    rw [HAP.out]
    rw [cs.1] at hc0
    have d1 : decide (s.left ≤ (n : Int)) = true := decide_eq_true cs.2
    clear cs
    go_enter Try.func64, Try.ntmps64
    go_wp2_with (fail)
    refine (HB.out).mono ?_
    rintro e w1 ⟨rfl, hI, hW⟩
    have HI := Aside0.mk hI
    have HW := Aside0.mk hW
    clear hI hW hc0 hc1
    go_wp2_with (fail)
    refine (HDO.out (burnS s n) (burnN s n) _ HI.out (by unfold burnS; split <;> rfl) HW.out HML.out).mono ?_
    rintro e w2 ⟨rfl, hI, hW⟩
    have HI2 := Aside0.mk hI
    have HW2 := Aside0.mk (HW.out.trans hW)
    clear hI hW HI HW
    obtain ⟨_, _, d2, hA2, hR2⟩ := HI2.out
    obtain ⟨A, c, hv, _, _⟩ := hR2.2.2.1.slice
    have hc2 := hA2.c2
    have HKV := Aside0.mk (hR2.2.2.1.one HI2.out.gg)
    rw [hv] at hc2 HKV
    rw [HKE.out] at hc2 HKV
    clear hA2 hR2 hv
    go_wp2_with (fail)
    refine (fall_calls G g _ _ s.keep _ HI2.out HOK2.out HKV.out HKR.out).mono ?_
    rintro e w3 ⟨rfl, hI, hW⟩
    have HI3 := Aside0.mk hI
    have HW3 := Aside0.mk (HW2.out.trans hW)
    clear hI hW hc2
    go_wp2
    go_ret
    exact ⟨rfl, HI3.out, HW3.out⟩
  · have HAP := Aside0.mk (show actP s n done = (done (burnS s n) (burnN s n), 0) by
      unfold actP
      rw [if_neg (by
        unfold struckP
        intro h
        rw [Bool.and_eq_true, decide_eq_true_eq] at h
        exact cs h)])
    rw [HAP.out]
    by_cases c1 : s.set = true
    case' pos =>
      rw [c1] at hc0
      have d1 : decide (s.left ≤ (n : Int)) = false := decide_eq_false (fun h => cs ⟨c1, h⟩)
    case' neg =>
      have c1' : s.set = false := by simpa using c1
      rw [c1'] at hc0
      clear c1'
    all_goals
      clear cs c1
      go_enter Try.func64, Try.ntmps64
      go_wp2_with (fail)
      refine (HB.out).mono ?_
      rintro e w1 ⟨rfl, hI, hW⟩
      have HI := Aside0.mk hI
      have HW := Aside0.mk hW
      clear hI hW hc0 hc1
      go_wp2_with (fail)
      refine (HDO.out (burnS s n) (burnN s n) _ HI.out (by unfold burnS; split <;> rfl) HW.out HML.out).mono ?_
      rintro e w2 ⟨rfl, hI, hW⟩
      have HI2 := Aside0.mk hI
      have HW2 := Aside0.mk (HW.out.trans hW)
      clear hI hW HI HW
      go_wp2
      go_ret
      exact ⟨rfl, HI2.out, HW2.out⟩
end Go.Proofs.Ytehjbhnlbjbhfaa.Dk
-- DkH
namespace Go.Proofs.Ytehjbhnlbjbhfaa.Dk
open Go Go.RowKit Go.Proofs.YtehjbhnlbjbhfaaW.PrintWords Go.Proofs.YtehjbhnlbjbhfaaW.PrintLast Go.Proofs.YtehjbhnlbjbhfaaW.PrintMore
open Go.Proofs.Ytehjbhnlbjbhfaa.PDiskBegins
attribute [local go_sem] max2_int min2_int max_two min_two
set_option linter.unusedVariables false
set_option linter.unusedSimpArgs false
theorem with_w {P : World → Prop} (S : World → Prop) {W : World} (h : S W) (k : ∀ w', S w' → P w') : P W := k W h
set_option maxHeartbeats 8000000 in
set_option maxRecDepth 100000 in
theorem c46_calls (G : Nat → Prop) (g : Nat) (s : DS) (i n : Nat) (bs : List Int) (B : Option Addr) (cb : Nat) (b1 b2 b3 : Nat) (w : World) (h : IsD G w g s) (hi : i < 8) (hsl : (fl s i).seen.length ≤ 4194304) (h1 : w.cell? ⟨b1, 0, none⟩ = some (.pointer (some ⟨g, 0, none⟩))) (h2 : w.cell? ⟨b2, 0, none⟩ = some (.int .i64 (i : Int))) (h3 : w.cell? ⟨b3, 0, none⟩ = some (.slice B bs.length cb))
    (hB : (Kd.int .u8).C w B bs.length bs) (hcb : bs.length ≤ cb) (hn : n ≤ bs.length) (hbl : bs.length < 1000000000) :
    Calls Try.prog 65 #[.int .i64 (n : Int), .pointer (some ⟨b1, 0, none⟩), .pointer (some ⟨b2, 0, none⟩), .pointer (some ⟨b3, 0, none⟩)] w fun e w' => e = .returned (.tuple #[]) ∧ IsD G w' g (doneA i bs s n) ∧ Wr g w w' := by
  have H := Aside0.mk h
  obtain ⟨_, _, d, hA, hR⟩ := h
  have HA := Aside0.mk hA
  have HR := Aside0.mk hR
  obtain ⟨A, cc, hv, hvc, hC0⟩ := (hR.2.2.2.2.2.2 i hi).1.slice
  have HV := Aside0.mk hv
  have hs := hA.sv hi
  rw [hv] at hs
  have hfs := hA.frozen (3 + i * 3)
  have HGL := Aside0.mk hA.lt
  have HG3 := Aside0.mk (World.block_lt_of_cell? w _ h3)
  have HC0 := Aside0.mk hC0
  have HCC := Aside0.mk hvc
  have HSL := Aside0.mk (show (fl s i).seen.length < 140737488355328 by omega)
  obtain ⟨i0, hi0, _, hz1, _⟩ := info_parts info5
  have HCUT := cut_to (P := Try.prog) 32 5 .i64 Try.underlying32 hi0 B bs.length cb (n : Int) (by omega) (by omega) hcb
  rw [Int.toNat_natCast] at HCUT
  have hyl : (bs.take n).length = n := by rw [List.length_take]; exact Nat.min_eq_left hn
  have HCY := Aside0.mk (Kd.C_take (m := n) hB hn)
  have HY := Aside0.mk (show doneA i bs s n = setF s i ⟨(fl s i).seen ++ bs.take n, (fl s i).lasts, (fl s i).cl⟩ from rfl)
  rw [HY.out]
  have HLY := Aside0.mk (show ((fl s i).seen.length + (bs.take n).length) * 1 ≤ 140737488355328 by omega)
  generalize hy : bs.take n = y at HCY HY HLY hyl
  rw [← hyl] at HCUT
  subst hyl
  clear hA hR hv hvc hC0 hB hcb hn hbl hi0 hz1 hsl
  go_enter Try.func65, Try.ntmps65
  go_wp2
  go_quiet (fail)
  go_wp2
  refine with_w (fun w' => At w' g d ∧ Rows G w' d s ∧ Wr g w w' ∧ w'.cell? ⟨b3, 0, none⟩ = some (.slice B bs.length cb) ∧ (Kd.int .u8).C w' A (fl s i).seen.length (fl s i).seen ∧ (Kd.int .u8).C w' B y.length y) ⟨HA.out, HR.out.wr ((Wr.refl g w).drew1 nq) H.out.gg, (Wr.refl g w).drew1 nq, h3, Kd.C_drewN HC0.out nq, Kd.C_drewN HCY.out nq⟩ ?_
  clear hs hfs h1 h2 h3 HC0 HCY HA HR HGL HG3
  rintro wr ⟨hA, hR, hW, hbx, hC0, hCY⟩
  have HA := Aside0.mk hA
  have HR := Aside0.mk hR
  have HW := Aside0.mk hW
  have HC0 := Aside0.mk hC0
  have HCY := Aside0.mk hCY
  have hs := hA.sv hi
  obtain ⟨A', cc', hv, _, _⟩ := (hR.2.2.2.2.2.2 i hi).1.slice
  rw [HV.out] at hs
  have hfs := hA.frozen (3 + i * 3)
  have HGL := Aside0.mk hA.lt
  have HG3 := Aside0.mk (World.block_lt_of_cell? wr _ hbx)
  have HBB := Aside0.mk (Below.refl wr.drew.heap.size wr.drew)
  clear hA hR hW hC0 hCY hv
  refine start_ (n := 13) (S := fun w' => w'.cell? ⟨g, 3 + i * 3, none⟩ = some (.slice A (fl s i).seen.length cc) ∧ w'.frozen? ⟨g, 3 + i * 3, none⟩ = false ∧ w'.cell? ⟨b3, 0, none⟩ = some (.slice B bs.length cb)) (ds := [12]) #[false, false, false, false, false, false, false, false, false, false, false, false, false] (by kernel_rfl) rfl rfl ⟨hs, hfs, hbx⟩ (fun hHeld => ?_)
  refine pure_ (i := 0) (N := some 11) (v := ?_) (a' := ?_) #[true, false, false, false, false, false, false, false, false, false, false, false, false] rfl rfl (by kernel_rfl) (fun _ _ _ h => h) (Or.inl ⟨by rfl, ?_⟩) ?_ ?_
  rotate_left
  · intro w'
    go_simp
    with_reducible rfl
  rotate_left
  · simp only [Act.put, List.setIfInBounds_toArray, List.set_cons_zero, List.set_cons_succ, i64_w, i32_w]
    rfl
  refine pure_ (i := 1) (N := some 12) (v := ?_) (a' := ?_) #[true, true, false, false, false, false, false, false, false, false, false, false, false] rfl rfl (by kernel_rfl) (fun _ _ _ h => h) (Or.inl ⟨by rfl, ?_⟩) ?_ ?_
  rotate_left
  · intro w'
    go_simp
    with_reducible rfl
  rotate_left
  · simp only [Act.put, List.setIfInBounds_toArray, List.set_cons_zero, List.set_cons_succ, i64_w, i32_w]
    rfl
  refine pure_ (i := 2) (N := some 13) (v := ?_) (a' := ?_) #[true, true, true, false, false, false, false, false, false, false, false, false, false] rfl rfl (by kernel_rfl) (fun _ _ _ h => h) (Or.inl ⟨by rfl, ?_⟩) ?_ ?_
  rotate_left
  · intro w'
    go_simp
    with_reducible rfl
  rotate_left
  · simp only [Act.put, List.setIfInBounds_toArray, List.set_cons_zero, List.set_cons_succ, i64_w, i32_w]
    rfl
  refine pure_ (i := 3) (N := some 14) (v := ?_) (a' := ?_) #[true, true, true, true, false, false, false, false, false, false, false, false, false] rfl rfl (by kernel_rfl) (fun _ _ _ h => h) (Or.inl ⟨by rfl, ?_⟩) ?_ ?_
  rotate_left
  · intro w'
    go_simp
    with_reducible rfl
  rotate_left
  · simp only [Act.put, List.setIfInBounds_toArray, List.set_cons_zero, List.set_cons_succ, i64_w, i32_w]
    rfl
  refine pure_ (i := 7) (N := some 18) (v := ?_) (a' := ?_) #[true, true, true, true, false, false, false, true, false, false, false, false, false] rfl rfl (by kernel_rfl) (fun _ _ _ h => h) (Or.inl ⟨by rfl, ?_⟩) ?_ ?_
  rotate_left
  · intro w'
    go_simp
    with_reducible rfl
  rotate_left
  · simp only [Act.put, List.setIfInBounds_toArray, List.set_cons_zero, List.set_cons_succ, i64_w, i32_w]
    rfl
  refine take_ (i := 4) (N := some 15) (v := ?_) (a' := ?_) #[true, true, true, true, true, false, false, true, false, false, false, false, false] rfl rfl (by kernel_rfl) (fun _ _ _ h => h) (Or.inl ⟨by rfl, ?_⟩) hHeld ?_ ?_
  rotate_left
  · rintro w' ⟨s0, s1, s2⟩
    go_simp
    with_reducible rfl
  rotate_left
  · simp only [Act.put, List.setIfInBounds_toArray, List.set_cons_zero, List.set_cons_succ, i64_w, i32_w]
    rfl
  refine take_ (i := 6) (N := some 17) (v := ?_) (a' := ?_) #[true, true, true, true, true, false, true, true, false, false, false, false, false] rfl rfl (by kernel_rfl) (fun _ _ _ h => h) (Or.inl ⟨by rfl, ?_⟩) hHeld ?_ ?_
  rotate_left
  · rintro w' ⟨s0, s1, s2⟩
    go_simp
    with_reducible rfl
  rotate_left
  · simp only [Act.put, List.setIfInBounds_toArray, List.set_cons_zero, List.set_cons_succ, i64_w, i32_w]
    rfl
  refine pure_ (i := 8) (N := some 19) (v := ?_) (a' := ?_) #[true, true, true, true, true, false, true, true, true, false, false, false, false] rfl rfl (by kernel_rfl) (fun _ _ _ h => h) (Or.inl ⟨by rfl, ?_⟩) ?_ ?_
  rotate_left
  · intro w'
    go_simp
    with_reducible rfl
  rotate_left
  · simp only [Act.put, List.setIfInBounds_toArray, List.set_cons_zero, List.set_cons_succ, i64_w, i32_w]
    rfl
  refine one_ (i := 5) (N := some 16) #[true, true, true, true, true, true, true, true, true, false, false, false, false] rfl rfl (by kernel_rfl) (by decide) (fun K hK => ?_)
  refine goes_ Try.func14 (by kernel_rfl) rfl #[.slice A (fl s i).seen.length cc] (by rfl) rfl rfl (by first | rfl | (simp; done) | (simp only [List.map_toArray, List.map_cons, List.map_nil]; rfl)) ?_
  with_reducible refine (Clone_b A cc (fl s i).seen _ (by repeat (first | exact HC0.out | (with_reducible refine Kd.C_drew ?_) | (with_reducible refine Kd.C_drewN ?_ _))) HCC.out HSL.out).mono ?_
  rintro e w3 ⟨v, rfl, hR, hb⟩
  refine ⟨_, rfl, ?_⟩
  obtain ⟨A3, c3, e3⟩ := Kd.R_slice hR
  subst e3
  have n0_ := Aside0.mk (below_step (by repeat (first | (with_reducible first | exact HBB.out | apply below_alloc | apply pw_below_drewN | apply below_drew1) | exact HBB.out)) hb)
  have HOa := Aside0.mk hR
  clear HBB
  have HBB := n0_
  clear n0_
  clear hR
  refine hK.out _ _ ⟨(hb.cell (p := ⟨g, 3 + i * 3, none⟩) HGL.out).trans hHeld.1, (hb.frozen (p := ⟨g, 3 + i * 3, none⟩) HGL.out).trans hHeld.2.1, (hb.cell (p := ⟨b3, 0, none⟩) HG3.out).trans hHeld.2.2⟩ (fun hHeld => ?_)
  clear hK K
  refine norm_ (a' := ?_) ?_ ?_
  rotate_left
  · show Act.put _ (some 16) _ = _
    simp only [Act.put, List.setIfInBounds_toArray, List.set_cons_zero, List.set_cons_succ, i64_w, i32_w]
    rfl
  refine one_ (i := 9) (N := some 20) #[true, true, true, true, true, true, true, true, true, true, false, false, false] rfl rfl (by kernel_rfl) (by decide) (fun K hK => ?_)
  refine Kd.R_append_rows_step (Kd.int .u8) (w0 := wr.drew) wr.drew.heap.size (by rfl) (.tmp 16) (.tmp 19) 32 5 (.int .u8 0) 1 (by rfl) Try.underlying32 info5 rfl (by decide) (by omega) (.slice A3 (fl s i).seen.length c3) (fl s i).seen y _ _ _ (fun _ => True) (fun _ => False) (by rfl) (by rfl) ?aO ?aR (fun _ _ h => h) (fun _ h => h.elim) ?aF ?aB ?aS ?aL ?_
  case aR => exact Kd.C_below HCY.out (below_step (below_drew1 (Below.refl wr.heap.size wr)) HBB.out)
  case aB => exact (by repeat (first | (with_reducible first | exact HBB.out | apply below_alloc | apply pw_below_drewN | apply below_drew1) | exact HBB.out))
  case aF => exact fun _ _ => trivial
  case aO => exact (by (with_reducible repeat (first | apply Kd.R_alloc | apply Kd.R_drewN | apply Kd.R_drew)); exact HOa.out)
  case aS => exact (below_size (by repeat (first | (with_reducible first | exact HBB.out | apply below_alloc | apply pw_below_drewN | apply below_drew1) | exact HBB.out)))
  case aL => exact HLY.out
  intro vb w6 ho hb hg hat
  have n0_ := Aside0.mk hb
  have n1_ := Aside0.mk ho
  have hfr := (hb.frozen (p := ⟨g, 3 + i * 3, none⟩) HGL.out).trans hfs
  have hc3 := (hb.cell (p := ⟨b3, 0, none⟩) HG3.out).trans hbx
  clear HBB HOa
  have HBB := n0_
  have HOa := n1_
  clear n0_ n1_
  obtain ⟨A7, c7, e7⟩ := Kd.R_slice HOa.out
  subst e7
  refine hK.out _ _ ⟨(hb.cell (p := ⟨g, 3 + i * 3, none⟩) HGL.out).trans hs, hfr, hc3⟩ (fun hHeld => ?_)
  clear hK K
  refine norm_ (a' := ?_) ?_ ?_
  rotate_left
  · show Act.put _ (some 20) _ = _
    simp only [Act.put, List.setIfInBounds_toArray, List.set_cons_zero, List.set_cons_succ, i64_w, i32_w]
    rfl
  refine pure_ (i := 10) (N := some 21) (v := ?_) (a' := ?_) #[true, true, true, true, true, true, true, true, true, true, true, false, false] rfl rfl (by kernel_rfl) (fun _ _ _ h => h) (Or.inl ⟨by rfl, ?_⟩) ?_ ?_
  rotate_left
  · intro w'
    go_simp
    with_reducible rfl
  rotate_left
  · simp only [Act.put, List.setIfInBounds_toArray, List.set_cons_zero, List.set_cons_succ, i64_w, i32_w]
    rfl
  refine pure_ (i := 11) (N := some 22) (v := ?_) (a' := ?_) #[true, true, true, true, true, true, true, true, true, true, true, true, false] rfl rfl (by kernel_rfl) (fun _ _ _ h => h) (Or.inl ⟨by rfl, ?_⟩) ?_ ?_
  rotate_left
  · intro w'
    go_simp
    with_reducible rfl
  rotate_left
  · simp only [Act.put, List.setIfInBounds_toArray, List.set_cons_zero, List.set_cons_succ, i64_w, i32_w]
    rfl
  refine last_ (i := 12) (N := none) #[true, true, true, true, true, true, true, true, true, true, true, true, true] rfl rfl (by kernel_rfl) (by decide) (fun K hK => ?_)
  obtain ⟨hx0, hx1, hx2⟩ := hHeld
  refine skip_ (w1 := ?_) (by rfl) rfl ?_ ?_
  rotate_left
  · go_simp
    rfl
  refine hK.out _ _ ?_
  clear hK K
  refine done_ (by kernel_rfl) ?_
  have HB3 := Aside0.mk (below_step (below_drew1 (Below.refl wr.heap.size wr)) HBB.out)
  clear hs hfs hbx
  go_wp2
  first | go_end0 | ((try simp only [Exit.inBlock, Exit.then]); refine bodyPost_ret (results_none rfl _ _ _) rfl ?_)
  rw [← List.length_append]
  have hw6 : Wr g wr w6 := Wr.of_below HB3.out
  have hA6 := HA.out.same (HB3.out.block g HGL.out)
  have hRw := Rw.of_R HOa.out (G := G) (fun b hb => Nat.lt_of_lt_of_le (H.out.lt b hb) HW.out.size)
  have hw := hw6.set (3 + i * 3) (.slice A7 ((fl s i).seen ++ y).length c7)
  have hw63 := (Wr.refl g w6).set (3 + i * 3) (.slice A7 ((fl s i).seen ++ y).length c7)
  have hI : IsD G wr g s := ⟨fun b hb => Nat.lt_of_lt_of_le (H.out.lt b hb) HW.out.size, H.out.gg, d, HA.out, HR.out⟩
  refine ⟨rfl, hI.file HA.out.1 HR.out hi (hA6.setS hi _) hw ⟨hRw.wr hw63 H.out.gg, (HR.out.2.2.2.2.2.2 i hi).2.1.wr hw H.out.gg, (HR.out.2.2.2.2.2.2 i hi).2.2⟩, HW.out.trans hw⟩
end Go.Proofs.Ytehjbhnlbjbhfaa.Dk
-- DkI
namespace Go.Proofs.Ytehjbhnlbjbhfaa.Dk
open Go Go.RowKit Go.Proofs.YtehjbhnlbjbhfaaW.PrintWords Go.Proofs.YtehjbhnlbjbhfaaW.PrintLast Go.Proofs.YtehjbhnlbjbhfaaW.PrintMore
open Go.Proofs.Ytehjbhnlbjbhfaa.PDiskBegins
attribute [local go_sem] max2_int min2_int max_two min_two
set_option linter.unusedVariables false
set_option linter.unusedSimpArgs false
theorem IsD.dr {G : Nat → Prop} {g : Nat} {W : World} {s : DS} (h : IsD G W g s) : IsD G W.drew g s := h.below (below_drew1 (Below.refl _ _))
theorem IsD.drN {G : Nat → Prop} {g : Nat} {W : World} {s : DS} (h : IsD G W g s) (n : Nat) : IsD G (W.drewN n) g s := h.below (pw_below_drewN (Below.refl _ _) n)
theorem IsD.al {G : Nat → Prop} {g : Nat} {W : World} {s : DS} (h : IsD G W g s) (o : Obj) : IsD G (W.alloc o) g s := h.below (below_alloc (Below.refl _ _) o)
theorem IsD.ltg {G : Nat → Prop} {g : Nat} {W : World} {s : DS} (h : IsD G W g s) : g < W.heap.size := h.lt g h.gg
theorem Wr.cell {g : Nat} {w w' : World} (h : Wr g w w') {b o : Nat} {v : Value} (hc : w.cell? ⟨b, o, none⟩ = some v) (hne : b ≠ g) : w'.cell? ⟨b, o, none⟩ = some v := by
  have hb := h.block b (World.block_lt_of_cell? w _ hc) hne
  simpa [World.cell?, hb] using hc
set_option maxHeartbeats 8000000 in
set_option maxRecDepth 100000 in
theorem Clear_calls (G : Nat → Prop) (g : Nat) (s : DS) (i : Int) (w : World) (h : IsD G w g s) (hok : Okk s) : Calls Try.prog 55 #[.pointer (some ⟨g, 0, none⟩), .int .i64 i] w fun e w' => e = .returned (.int .i64 (clearP s i).2) ∧ IsD G w' g (clearP s i).1 ∧ Wr g w w' := by
  have H := Aside0.mk h
  have HOK := Aside0.mk hok
  have HG := Aside0.mk h.ltg
  have H2 := Aside0.mk ((h.al (.cells #[.pointer (some ⟨g, 0, none⟩)] 23)).al (.cells #[.int .i64 i] 3))
  have HAB := Aside0.mk (able_calls G g s i _ H2.out)
  have HW2 := Aside0.mk (Wr.of_below (g := g) (below_alloc (below_alloc (Below.refl w.heap.size w) (.cells #[.pointer (some ⟨g, 0, none⟩)] 23)) (.cells #[.int .i64 i] 3)))
  rcases able_cases s i with c | ⟨c, j, hj, rfl, _, _⟩
  · have HR := Aside0.mk (show clearP s i = (s, ableP s i) by unfold clearP; rw [if_pos c])
    have c1 : (ableP s i != (0 : Int)) = true := by simpa using c
    have c2 : (ableP s i == (0 : Int)) = false := by simpa using c
    rw [HR.out]
    clear h c HR hok
    generalize ableP s i = er at *
    go_enter Try.func55, Try.ntmps55
    go_wp2_with (fail)
    refine (HAB.out).mono ?_
    rintro e w1 ⟨rfl, ⟨nd, rfl⟩⟩
    go_wp2
    go_ret
    exact ⟨rfl, H2.out.drN nd, HW2.out.drew1 nd⟩
  · have HR := Aside0.mk (show clearP s (j : Int) = actP s 1 (doneC j) by unfold clearP; rw [if_neg (by rw [c]; decide), Int.toNat_natCast])
    rw [c] at HAB
    rw [HR.out]
    have HJ := Aside0.mk hj
    have hb1 : ((w.alloc (.cells #[.pointer (some ⟨g, 0, none⟩)] 23)).alloc (.cells #[.int .i64 (j : Int)] 3)).cell? ⟨w.heap.size, 0, none⟩ = some (.pointer (some ⟨g, 0, none⟩)) := (blk_cell (blk_alloc (blk_new w _) _) 0).trans rfl
    have hb2 : ((w.alloc (.cells #[.pointer (some ⟨g, 0, none⟩)] 23)).alloc (.cells #[.int .i64 (j : Int)] 3)).cell? ⟨w.heap.size + 1, 0, none⟩ = some (.int .i64 (j : Int)) := by
      have := blk_new (w.alloc (.cells #[.pointer (some ⟨g, 0, none⟩)] 23)) (.cells #[.int .i64 (j : Int)] 3)
      rw [show (w.alloc (.cells #[.pointer (some ⟨g, 0, none⟩)] 23)).heap.size = w.heap.size + 1 by simp] at this
      exact (blk_cell this 0).trans rfl
    have HB1 := Aside0.mk hb1
    have HB2 := Aside0.mk hb2
    clear h c HR hok hb1 hb2 hj
    go_enter Try.func55, Try.ntmps55
    go_wp2_with (fail)
    refine (HAB.out).mono ?_
    rintro e w1 ⟨rfl, ⟨nd, rfl⟩⟩
    go_wp2_with (fail)
    refine (act47_calls G g s 1 (doneC j) (.pointer (some ⟨w.heap.size, 0, none⟩)) (.pointer (some ⟨w.heap.size + 1, 0, none⟩)) _ (H2.out.drN nd) HOK.out.1 (by decide) (fun s' m w' hI hfs hW hm => c47_calls G g s' j m w.heap.size (w.heap.size + 1) w' hI HJ.out (hW.cell (b := w.heap.size) HB1.out (by have := HG.out; omega)) (hW.cell (b := w.heap.size + 1) HB2.out (by have := HG.out; omega)) (by have := HG.out; omega) (by have := HG.out; omega)) ((HOK.out.1.burn 1).doneC HJ.out _) (keepC j s 1 _) HOK.out.2).mono ?_
    rintro e w2 ⟨rfl, hI, hW⟩
    have HI := Aside0.mk hI
    have HWF := Aside0.mk ((HW2.out.drew1 nd).trans hW)
    clear hI hW
    go_wp2
    go_ret
    exact ⟨rfl, HI.out, HWF.out⟩
set_option maxHeartbeats 8000000 in
set_option maxRecDepth 100000 in
theorem Sync_calls (G : Nat → Prop) (g : Nat) (s : DS) (i : Int) (w : World) (h : IsD G w g s) (hok : Okk s) : Calls Try.prog 54 #[.pointer (some ⟨g, 0, none⟩), .int .i64 i] w fun e w' => e = .returned (.int .i64 (syncP s i).2) ∧ IsD G w' g (syncP s i).1 ∧ Wr g w w' := by
  have H := Aside0.mk h
  have HOK := Aside0.mk hok
  have HG := Aside0.mk h.ltg
  have H2 := Aside0.mk ((h.al (.cells #[.pointer (some ⟨g, 0, none⟩)] 23)).al (.cells #[.int .i64 i] 3))
  have HAB := Aside0.mk (able_calls G g s i _ H2.out)
  have HW2 := Aside0.mk (Wr.of_below (g := g) (below_alloc (below_alloc (Below.refl w.heap.size w) (.cells #[.pointer (some ⟨g, 0, none⟩)] 23)) (.cells #[.int .i64 i] 3)))
  rcases able_cases s i with c | ⟨c, j, hj, rfl, _, _⟩
  · have HR := Aside0.mk (show syncP s i = (s, ableP s i) by unfold syncP; rw [if_pos c])
    have c1 : (ableP s i != (0 : Int)) = true := by simpa using c
    have c2 : (ableP s i == (0 : Int)) = false := by simpa using c
    rw [HR.out]
    clear h c HR hok
    generalize ableP s i = er at *
    go_enter Try.func54, Try.ntmps54
    go_wp2_with (fail)
    refine (HAB.out).mono ?_
    rintro e w1 ⟨rfl, ⟨nd, rfl⟩⟩
    go_wp2
    go_ret
    exact ⟨rfl, H2.out.drN nd, HW2.out.drew1 nd⟩
  · have HR := Aside0.mk (show syncP s (j : Int) = actP s 1 (doneY j) by unfold syncP; rw [if_neg (by rw [c]; decide), Int.toNat_natCast])
    rw [c] at HAB
    rw [HR.out]
    have HJ := Aside0.mk hj
    have hb1 : ((w.alloc (.cells #[.pointer (some ⟨g, 0, none⟩)] 23)).alloc (.cells #[.int .i64 (j : Int)] 3)).cell? ⟨w.heap.size, 0, none⟩ = some (.pointer (some ⟨g, 0, none⟩)) := (blk_cell (blk_alloc (blk_new w _) _) 0).trans rfl
    have hb2 : ((w.alloc (.cells #[.pointer (some ⟨g, 0, none⟩)] 23)).alloc (.cells #[.int .i64 (j : Int)] 3)).cell? ⟨w.heap.size + 1, 0, none⟩ = some (.int .i64 (j : Int)) := by
      have := blk_new (w.alloc (.cells #[.pointer (some ⟨g, 0, none⟩)] 23)) (.cells #[.int .i64 (j : Int)] 3)
      rw [show (w.alloc (.cells #[.pointer (some ⟨g, 0, none⟩)] 23)).heap.size = w.heap.size + 1 by simp] at this
      exact (blk_cell this 0).trans rfl
    have HB1 := Aside0.mk hb1
    have HB2 := Aside0.mk hb2
    clear h c HR hok hb1 hb2 hj
    go_enter Try.func54, Try.ntmps54
    go_wp2_with (fail)
    refine (HAB.out).mono ?_
    rintro e w1 ⟨rfl, ⟨nd, rfl⟩⟩
    go_wp2_with (fail)
    refine (act44_calls G g s 1 (doneY j) (.pointer (some ⟨w.heap.size, 0, none⟩)) (.pointer (some ⟨w.heap.size + 1, 0, none⟩)) _ (H2.out.drN nd) HOK.out.1 (by decide) (fun s' m w' hI hfs hW hm => c44_calls G g s' j m w.heap.size (w.heap.size + 1) w' hI HJ.out (hW.cell (b := w.heap.size) HB1.out (by have := HG.out; omega)) (hW.cell (b := w.heap.size + 1) HB2.out (by have := HG.out; omega)) (by have := HG.out; omega) (by have := HG.out; omega)) ((HOK.out.1.burn 1).doneY HJ.out _) (keepY j s 1 _) HOK.out.2).mono ?_
    rintro e w2 ⟨rfl, hI, hW⟩
    have HI := Aside0.mk hI
    have HWF := Aside0.mk ((HW2.out.drew1 nd).trans hW)
    clear hI hW
    go_wp2
    go_ret
    exact ⟨rfl, HI.out, HWF.out⟩
set_option maxHeartbeats 8000000 in
set_option maxRecDepth 100000 in
theorem Crash_calls (G : Nat → Prop) (g : Nat) (s : DS) (kV : Value) (keep : List Int) (w : World) (h : IsD G w g s) (hok : Okk s) (hk : Rw (fun b => b = g) .i64 w kV keep) (hkr : I64 keep) : Calls Try.prog 47 #[.pointer (some ⟨g, 0, none⟩), kV] w fun e w' => e = .returned (.int .i64 (crashP s keep).2) ∧ IsD G w' g (crashP s keep).1 ∧ Wr g w w' := by
  have H := Aside0.mk h
  have HOK := Aside0.mk hok
  have HK := Aside0.mk hk
  have HKR := Aside0.mk hkr
  have HAB := Aside0.mk (able_calls G g s 0 w h)
  obtain ⟨A, cc, rfl, _, _⟩ := hk.slice
  by_cases c : ableP s 0 ≠ 0
  · have HR := Aside0.mk (show crashP s keep = (s, ableP s 0) by unfold crashP; rw [if_pos c])
    have c1 : (ableP s 0 != (0 : Int)) = true := by simpa using c
    have c2 : (ableP s 0 == (0 : Int)) = false := by simpa using c
    rw [HR.out]
    clear h c HR hok hk hkr
    generalize ableP s 0 = er at *
    go_enter Try.func47, Try.ntmps47
    go_wp2_with (fail)
    refine (HAB.out).mono ?_
    rintro e w1 ⟨rfl, ⟨nd, rfl⟩⟩
    go_wp2
    go_ret
    exact ⟨rfl, H.out.drN nd, (Wr.refl g w).drew1 nd⟩
  · have HR := Aside0.mk (show crashP s keep = (fallP s keep, 0) by unfold crashP; rw [if_neg c])
    rw [Decidable.not_not.1 c] at HAB
    rw [HR.out]
    clear h c HR hok hk hkr
    go_enter Try.func47, Try.ntmps47
    go_wp2_with (fail)
    refine (HAB.out).mono ?_
    rintro e w1 ⟨rfl, ⟨nd, rfl⟩⟩
    go_wp2_with (fail)
    refine (fall_calls G g s _ keep _ (H.out.drN nd) HOK.out.1 (HK.out.below (pw_below_drewN (Below.refl _ _) nd)) HKR.out).mono ?_
    rintro e w2 ⟨rfl, hI, hW⟩
    have HI := Aside0.mk hI
    have HWF := Aside0.mk (((Wr.refl g w).drew1 nd).trans hW)
    clear hI hW
    go_wp2
    go_ret
    exact ⟨rfl, HI.out, HWF.out⟩
set_option maxHeartbeats 8000000 in
set_option maxRecDepth 100000 in
theorem Arm_calls (G : Nat → Prop) (g : Nat) (s : DS) (n : Int) (kV : Value) (keep : List Int) (w : World) (h : IsD G w g s) (hok : Okk s) (hk : Rw (fun b => b = g) .i64 w kV keep) (hkl : keep.length < 1000000000) : Calls Try.prog 42 #[.pointer (some ⟨g, 0, none⟩), .int .i64 n, kV] w fun e w' => e = .returned (.int .i64 (armP s n keep).2) ∧ IsD G w' g (armP s n keep).1 ∧ Wr g w w' := by
  have H := Aside0.mk h
  have HOK := Aside0.mk hok
  have HK := Aside0.mk hk
  have HAB := Aside0.mk (able_calls G g s 0 w h)
  obtain ⟨A, cc, rfl, hcc, hC⟩ := hk.slice
  have HC := Aside0.mk (And.intro hcc hC)
  have HKL := Aside0.mk (show keep.length < 17592186044416 by omega)
  by_cases c : ableP s 0 ≠ 0
  · have HR := Aside0.mk (show armP s n keep = (s, ableP s 0) by unfold armP; rw [if_pos c])
    have c1 : (ableP s 0 != (0 : Int)) = true := by simpa using c
    have c2 : (ableP s 0 == (0 : Int)) = false := by simpa using c
    rw [HR.out]
    clear h c HR hok hk hkl hcc hC
    generalize ableP s 0 = er at *
    go_enter Try.func42, Try.ntmps42
    go_wp2_with (fail)
    refine (HAB.out).mono ?_
    rintro e w1 ⟨rfl, ⟨nd, rfl⟩⟩
    go_wp2
    go_ret
    exact ⟨rfl, H.out.drN nd, (Wr.refl g w).drew1 nd⟩
  · rw [Decidable.not_not.1 c] at HAB
    by_cases c1 : n < 1
    · have HR := Aside0.mk (show armP s n keep = (s, 1) by unfold armP; rw [if_neg c, if_pos c1])
      rw [HR.out]
      have d1 : decide (n < 1) = true := decide_eq_true c1
      clear h c HR hok hk hkl hcc hC
      go_enter Try.func42, Try.ntmps42
      go_wp2_with (fail)
      refine (HAB.out).mono ?_
      rintro e w1 ⟨rfl, ⟨nd, rfl⟩⟩
      go_wp2
      go_ret
      exact ⟨rfl, H.out.drN nd, (Wr.refl g w).drew1 nd⟩
    · have HR := Aside0.mk (show armP s n keep = ({ s with set := true, left := n, keep := keep }, 0) by unfold armP; rw [if_neg c, if_neg c1])
      rw [HR.out]
      have d1 : decide (n < 1) = false := decide_eq_false c1
      clear h c HR hok hk hkl hcc hC c1
      go_enter Try.func42, Try.ntmps42
      go_wp2_with (fail)
      refine (HAB.out).mono ?_
      rintro e w1 ⟨rfl, ⟨nd, rfl⟩⟩
      go_wp2_with (fail)
      refine (Clone_i A cc keep _ (Kd.C_drewN HC.out.2 nd) HC.out.1 HKL.out).mono ?_
      rintro e w2 ⟨v, rfl, hR2, hB2⟩
      obtain ⟨A2, c2, rfl⟩ := Kd.R_slice hR2
      have H2 := Aside0.mk ((H.out.drN nd).below hB2)
      have HW2 := Aside0.mk (((Wr.refl g w).drew1 nd).trans (Wr.of_below hB2))
      have HRW := Aside0.mk (Rw.of_R hR2 (G := G) (fun b hb => (H.out.drN nd).lt b hb))
      clear hR2 hB2
      obtain ⟨_, _, d, hA, hR⟩ := H2.out
      have hc0 := hA.c0
      have hc1 := hA.c1
      have hc2 := hA.c2
      have hf0 := hA.frozen 0
      have hf1 := hA.frozen 1
      have hf2 := hA.frozen 2
      obtain ⟨A3, c3, hv, _, _⟩ := hR.2.2.1.slice
      rw [hv] at hc2
      have HA := Aside0.mk hA
      have HR := Aside0.mk hR
      clear hA hR hv
      go_wp2
      go_ret
      have hw := (((Wr.refl g w2).set 0 (.bool true)).set 1 (.int .i64 n)).set 2 (.slice A2 keep.length c2)
      have hr := HR.out.wr hw H2.out.gg
      refine ⟨rfl, ⟨fun b hb => Nat.lt_of_lt_of_le (H2.out.lt b hb) hw.size, H2.out.gg, _, ((HA.out.set0 true).set1 n).set2 _, rfl, rfl, HRW.out.wr hw H2.out.gg, hr.2.2.2.1, hr.2.2.2.2.1, hr.2.2.2.2.2.1, hr.2.2.2.2.2.2⟩, HW2.out.trans hw⟩
end Go.Proofs.Ytehjbhnlbjbhfaa.Dk
-- DkJ
namespace Go.Proofs.Ytehjbhnlbjbhfaa.Dk
open Go Go.RowKit Go.Proofs.YtehjbhnlbjbhfaaW.PrintWords Go.Proofs.YtehjbhnlbjbhfaaW.PrintLast Go.Proofs.YtehjbhnlbjbhfaaW.PrintMore
open Go.Proofs.Ytehjbhnlbjbhfaa.PDiskBegins
attribute [local go_sem] max2_int min2_int max_two min_two
set_option linter.unusedVariables false
set_option linter.unusedSimpArgs false
abbrev B1 (w : World) (g : Nat) : World := w.alloc (.cells #[.pointer (some ⟨g, 0, none⟩)] 23)
abbrev B2 (w : World) (g : Nat) (i : Int) : World := (B1 w g).alloc (.cells #[.int .i64 i] 3)
abbrev B3 (w : World) (g : Nat) (i : Int) (v : Value) : World := (B2 w g i).alloc (.cells #[v] 32)
theorem box_cells (w : World) (g : Nat) (i : Int) (v : Value) : (B3 w g i v).cell? ⟨w.heap.size, 0, none⟩ = some (.pointer (some ⟨g, 0, none⟩)) ∧ (B3 w g i v).cell? ⟨w.heap.size + 1, 0, none⟩ = some (.int .i64 i) ∧ (B3 w g i v).cell? ⟨w.heap.size + 2, 0, none⟩ = some v ∧ (B3 w g i v).heap.size = w.heap.size + 3 := by
  have e1 : (B1 w g).heap.size = w.heap.size + 1 := by simp [B1]
  have e2 : (B2 w g i).heap.size = w.heap.size + 2 := by simp [B2, B1]
  have h2 := blk_new (B1 w g) (.cells #[.int .i64 i] 3)
  have h3 := blk_new (B2 w g i) (.cells #[v] 32)
  rw [e1] at h2
  rw [e2] at h3
  exact ⟨(blk_cell (blk_alloc (blk_alloc (blk_new w _) _) _) 0).trans rfl, (blk_cell (blk_alloc h2 _) 0).trans rfl, (blk_cell h3 0).trans rfl, by simp [B3, B2, B1]⟩
set_option maxHeartbeats 8000000 in
set_option maxRecDepth 100000 in
theorem Append_calls (G : Nat → Prop) (g : Nat) (s : DS) (i : Int) (bV : Value) (bs : List Int) (w : World) (h : IsD G w g s) (hok : Okk s) (hbv : Rw (fun b => b = g) .u8 w bV bs) (hbl : bs.length < 1000000000) : Calls Try.prog 32 #[.pointer (some ⟨g, 0, none⟩), .int .i64 i, bV] w fun e w' => e = .returned (.int .i64 (appendP s i bs).2) ∧ IsD G w' g (appendP s i bs).1 ∧ Wr g w w' := by
  have H := Aside0.mk h
  have HOK := Aside0.mk hok
  have HOK1 := Aside0.mk hok.1
  have HG := Aside0.mk h.ltg
  have HBV := Aside0.mk hbv
  have HBL := Aside0.mk hbl
  obtain ⟨B, cb, rfl, hcb, _⟩ := hbv.slice
  have HCB := Aside0.mk hcb
  have H2 := Aside0.mk (((h.al (.cells #[.pointer (some ⟨g, 0, none⟩)] 23)).al (.cells #[.int .i64 i] 3)).al (.cells #[.slice B bs.length cb] 32))
  have HAB := Aside0.mk (able_calls G g s i _ H2.out)
  have HW2 := Aside0.mk (Wr.of_below (g := g) (below_alloc (below_alloc (below_alloc (Below.refl w.heap.size w) (.cells #[.pointer (some ⟨g, 0, none⟩)] 23)) (.cells #[.int .i64 i] 3)) (.cells #[.slice B bs.length cb] 32)))
  rcases able_cases s i with c | ⟨c, j, hj, rfl, _, _⟩
  · have HR := Aside0.mk (show appendP s i bs = (s, ableP s i) by unfold appendP; rw [if_pos c])
    have c1 : (ableP s i != (0 : Int)) = true := by simpa using c
    have c2 : (ableP s i == (0 : Int)) = false := by simpa using c
    rw [HR.out]
    clear h c HR hok hbv hbl hcb
    generalize ableP s i = er at *
    go_enter Try.func32, Try.ntmps32
    go_wp2_with (fail)
    refine (HAB.out).mono ?_
    rintro e w1 ⟨rfl, ⟨nd, rfl⟩⟩
    go_wp2
    go_ret
    exact ⟨rfl, H2.out.drN nd, HW2.out.drew1 nd⟩
  · rw [c] at HAB
    have HJ := Aside0.mk hj
    obtain ⟨hx1, hx2, hx3, hx4⟩ := box_cells w g (j : Int) (.slice B bs.length cb)
    have HB1 := Aside0.mk hx1
    have HB2 := Aside0.mk hx2
    have HB3 := Aside0.mk hx3
    have HZ := Aside0.mk hx4
    have hc27 : s.room = s.room → ∃ d, At (B3 w g (j : Int) (.slice B bs.length cb)) g d ∧ d.room = s.room := fun _ => by
      obtain ⟨_, _, d, hA, hR⟩ := H2.out
      exact ⟨d, hA, hR.2.2.2.1⟩
    obtain ⟨d, hA, hrm⟩ := hc27 rfl
    have HA27 := Aside0.mk (show (B3 w g (j : Int) (.slice B bs.length cb)).cell? ⟨g, 27, none⟩ = some (.int .i64 s.room) by rw [← hrm]; exact hA.c27)
    have HC := Aside0.mk c
    obtain ⟨r, hr⟩ : ∃ r, appendP s (j : Int) bs = r := ⟨_, rfl⟩
    rw [hr]
    have HRR := Aside0.mk hr
    clear hr
    clear h c hok hbv hbl hcb hx1 hx2 hx3 hx4 hj hA hrm
    go_enter Try.func32, Try.ntmps32
    go_wp2_with (fail)
    refine (HAB.out).mono ?_
    rintro e w1 ⟨rfl, ⟨nd, rfl⟩⟩
    go_wp2
    refine with_w (fun w' => IsD G w' g s ∧ Wr g w w' ∧ w'.cell? ⟨w.heap.size, 0, none⟩ = some (.pointer (some ⟨g, 0, none⟩)) ∧ w'.cell? ⟨w.heap.size + 1, 0, none⟩ = some (.int .i64 (j : Int)) ∧ w'.cell? ⟨w.heap.size + 2, 0, none⟩ = some (.slice B bs.length cb) ∧ w'.cell? ⟨g, 27, none⟩ = some (.int .i64 s.room)) ⟨H2.out.drN nd, HW2.out.drew1 nd, HB1.out, HB2.out, HB3.out, HA27.out⟩ ?_
    clear H2 HW2 HB1 HB2 HB3 HA27 HZ HAB
    rintro wr ⟨h3, hW, hb1, hb2, hb3, hc27⟩
    have H3 := Aside0.mk h3
    have HW := Aside0.mk hW
    have HB2 := Aside0.mk hb2
    have HL1 := Aside0.mk (World.block_lt_of_cell? wr _ hb1)
    have HL2 := Aside0.mk (World.block_lt_of_cell? wr _ hb2)
    have HL3 := Aside0.mk (World.block_lt_of_cell? wr _ hb3)
    have HLG := Aside0.mk h3.ltg
    obtain ⟨D, hD⟩ : ∃ D : Int, s.room - (usedP s : Int) = D := ⟨_, rfl⟩
    have hU := used_le HOK.out.1
    have hRM := HOK.out.1.room
    have hw1 : wrap64 (s.room - (usedP s : Int)) = D := by unfold wrap64; omega
    have hw2 : IntKind.i64.wrap (s.room - (usedP s : Int)) = D := by clear hw1; exact (IntWalk.i64_in _ (by omega)).trans hD
    by_cases cf : D < (bs.length : Int)
    · have d1 : decide (D < (bs.length : Int)) = true := decide_eq_true cf
      have HR := Aside0.mk (show appendP s (j : Int) bs = (s, 7) by unfold appendP; rw [if_neg (by rw [HC.out]; decide), if_pos (by clear hw1 hw2 d1; omega)])
      rw [HR.out] at HRR
      clear h3 hW hb2 hD hU hRM cf
      refine start_ (n := 10) (S := fun w' => w'.cell? ⟨w.heap.size, 0, none⟩ = some (.pointer (some ⟨g, 0, none⟩)) ∧ w'.cell? ⟨w.heap.size + 2, 0, none⟩ = some (.slice B bs.length cb) ∧ w'.cell? ⟨g, 27, none⟩ = some (.int .i64 s.room)) (ds := []) #[false, false, false, false, false, false, false, false, false, false] (by kernel_rfl) rfl rfl ⟨hb1, hb3, hc27⟩ (fun hHeld => ?_)
      refine take_ (i := 0) (N := some 14) (v := ?_) (a' := ?_) #[true, false, false, false, false, false, false, false, false, false] rfl rfl (by kernel_rfl) (fun _ _ _ h => h) (Or.inl ⟨by rfl, ?_⟩) hHeld ?_ ?_
      rotate_left
      · rintro w' ⟨s0, s1, s2⟩
        go_simp
        with_reducible rfl
      rotate_left
      · simp only [Act.put, List.setIfInBounds_toArray, List.set_cons_zero, List.set_cons_succ, i64_w, i32_w]
        rfl
      refine pure_ (i := 1) (N := some 15) (v := ?_) (a' := ?_) #[true, true, false, false, false, false, false, false, false, false] rfl rfl (by kernel_rfl) (fun _ _ _ h => h) (Or.inl ⟨by rfl, ?_⟩) ?_ ?_
      rotate_left
      · intro w'
        go_simp
        with_reducible rfl
      rotate_left
      · simp only [Act.put, List.setIfInBounds_toArray, List.set_cons_zero, List.set_cons_succ, i64_w, i32_w]
        rfl
      refine take_ (i := 2) (N := some 16) (v := ?_) (a' := ?_) #[true, true, true, false, false, false, false, false, false, false] rfl rfl (by kernel_rfl) (fun _ _ _ h => h) (Or.inl ⟨by rfl, ?_⟩) hHeld ?_ ?_
      rotate_left
      · rintro w' ⟨s0, s1, s2⟩
        go_simp
        with_reducible rfl
      rotate_left
      · simp only [Act.put, List.setIfInBounds_toArray, List.set_cons_zero, List.set_cons_succ, i64_w, i32_w]
        rfl
      refine pure_ (i := 3) (N := some 17) (v := ?_) (a' := ?_) #[true, true, true, true, false, false, false, false, false, false] rfl rfl (by kernel_rfl) (fun _ _ _ h => h) (Or.inl ⟨by rfl, ?_⟩) ?_ ?_
      rotate_left
      · intro w'
        go_simp
        with_reducible rfl
      rotate_left
      · simp only [Act.put, List.setIfInBounds_toArray, List.set_cons_zero, List.set_cons_succ, i64_w, i32_w]
        rfl
      refine pure_ (i := 4) (N := some 18) (v := ?_) (a' := ?_) #[true, true, true, true, true, false, false, false, false, false] rfl rfl (by kernel_rfl) (fun _ _ _ h => h) (Or.inl ⟨by rfl, ?_⟩) ?_ ?_
      rotate_left
      · intro w'
        go_simp
        with_reducible rfl
      rotate_left
      · simp only [Act.put, List.setIfInBounds_toArray, List.set_cons_zero, List.set_cons_succ, i64_w, i32_w]
        rfl
      refine take_ (i := 5) (N := some 19) (v := ?_) (a' := ?_) #[true, true, true, true, true, true, false, false, false, false] rfl rfl (by kernel_rfl) (fun _ _ _ h => h) (Or.inl ⟨by rfl, ?_⟩) hHeld ?_ ?_
      rotate_left
      · rintro w' ⟨s0, s1, s2⟩
        go_simp
        with_reducible rfl
      rotate_left
      · simp only [Act.put, List.setIfInBounds_toArray, List.set_cons_zero, List.set_cons_succ, i64_w, i32_w]
        rfl
      refine take_ (i := 6) (N := some 20) (v := ?_) (a' := ?_) #[true, true, true, true, true, true, true, false, false, false] rfl rfl (by kernel_rfl) (fun _ _ _ h => h) (Or.inl ⟨by rfl, ?_⟩) hHeld ?_ ?_
      rotate_left
      · rintro w' ⟨s0, s1, s2⟩
        go_simp
        with_reducible rfl
      rotate_left
      · simp only [Act.put, List.setIfInBounds_toArray, List.set_cons_zero, List.set_cons_succ, i64_w, i32_w]
        rfl
      refine one_ (i := 7) (N := some 21) #[true, true, true, true, true, true, true, true, false, false] rfl rfl (by kernel_rfl) (by decide) (fun K hK => ?_)
      refine goes_ Try.func18 (by kernel_rfl) rfl #[.pointer (some ⟨g, 0, none⟩)] (by rfl) rfl rfl (by first | rfl | (simp; done) | (simp only [List.map_toArray, List.map_cons, List.map_nil]; rfl)) ?_
      with_reducible refine (Used_calls G g s _ (by repeat (first | exact H3.out | (with_reducible refine IsD.dr ?_) | (with_reducible refine IsD.drN ?_ _))) HOK1.out).mono ?_
      rintro e w3 ⟨rfl, hb⟩
      refine ⟨_, rfl, ?_⟩
      refine hK.out _ _ ⟨(hb.cell (p := ⟨w.heap.size, 0, none⟩) HL1.out).trans hHeld.1, (hb.cell (p := ⟨w.heap.size + 2, 0, none⟩) HL3.out).trans hHeld.2.1, (hb.cell (p := ⟨g, 27, none⟩) HLG.out).trans hHeld.2.2⟩ (fun hHeld => ?_)
      clear hK K
      refine norm_ (a' := ?_) ?_ ?_
      rotate_left
      · show Act.put _ (some 21) _ = _
        simp only [Act.put, List.setIfInBounds_toArray, List.set_cons_zero, List.set_cons_succ, i64_w, i32_w]
        rfl
      refine pure_ (i := 8) (N := some 22) (v := ?_) (a' := ?_) #[true, true, true, true, true, true, true, true, true, false] rfl rfl (by kernel_rfl) (fun _ _ _ h => h) (Or.inl ⟨by rfl, ?_⟩) ?_ ?_
      rotate_left
      · intro w'
        go_simp
        with_reducible rfl
      rotate_left
      · simp only [Act.put, List.setIfInBounds_toArray, List.set_cons_zero, List.set_cons_succ, i64_w, i32_w]
        rfl
      refine pure_ (i := 9) (N := some 23) (v := ?_) (a' := ?_) #[true, true, true, true, true, true, true, true, true, true] rfl rfl (by kernel_rfl) (fun _ _ _ h => h) (Or.inl ⟨by rfl, ?_⟩) ?_ ?_
      rotate_left
      · intro w'
        go_simp
        with_reducible rfl
      rotate_left
      · simp only [Act.put, List.setIfInBounds_toArray, List.set_cons_zero, List.set_cons_succ, i64_w, i32_w]
        rfl
      refine done_ (by kernel_rfl) ?_
      have HB := Aside0.mk (below_step (below_drew1 (Below.refl wr.heap.size wr)) hb)
      clear hb
      go_wp2
      go_ret
      rw [← HRR.out]
      exact ⟨rfl, H3.out.below HB.out, HW.out.trans (Wr.of_below HB.out)⟩
    · have d1 : decide (D < (bs.length : Int)) = false := decide_eq_false cf
      have HNF := Aside0.mk (show ¬ s.room < (usedP s : Int) + (bs.length : Int) by clear hw1 hw2 d1; omega)
      have HR := Aside0.mk (show appendP s (j : Int) bs = actP s bs.length (doneA j bs) by unfold appendP; rw [if_neg (by rw [HC.out]; decide), if_neg HNF.out, Int.toNat_natCast])
      rw [HR.out] at HRR
      clear h3 hW hb2 hD hU hRM cf
      refine start_ (n := 10) (S := fun w' => w'.cell? ⟨w.heap.size, 0, none⟩ = some (.pointer (some ⟨g, 0, none⟩)) ∧ w'.cell? ⟨w.heap.size + 2, 0, none⟩ = some (.slice B bs.length cb) ∧ w'.cell? ⟨g, 27, none⟩ = some (.int .i64 s.room)) (ds := []) #[false, false, false, false, false, false, false, false, false, false] (by kernel_rfl) rfl rfl ⟨hb1, hb3, hc27⟩ (fun hHeld => ?_)
      refine take_ (i := 0) (N := some 14) (v := ?_) (a' := ?_) #[true, false, false, false, false, false, false, false, false, false] rfl rfl (by kernel_rfl) (fun _ _ _ h => h) (Or.inl ⟨by rfl, ?_⟩) hHeld ?_ ?_
      rotate_left
      · rintro w' ⟨s0, s1, s2⟩
        go_simp
        with_reducible rfl
      rotate_left
      · simp only [Act.put, List.setIfInBounds_toArray, List.set_cons_zero, List.set_cons_succ, i64_w, i32_w]
        rfl
      refine pure_ (i := 1) (N := some 15) (v := ?_) (a' := ?_) #[true, true, false, false, false, false, false, false, false, false] rfl rfl (by kernel_rfl) (fun _ _ _ h => h) (Or.inl ⟨by rfl, ?_⟩) ?_ ?_
      rotate_left
      · intro w'
        go_simp
        with_reducible rfl
      rotate_left
      · simp only [Act.put, List.setIfInBounds_toArray, List.set_cons_zero, List.set_cons_succ, i64_w, i32_w]
        rfl
      refine take_ (i := 2) (N := some 16) (v := ?_) (a' := ?_) #[true, true, true, false, false, false, false, false, false, false] rfl rfl (by kernel_rfl) (fun _ _ _ h => h) (Or.inl ⟨by rfl, ?_⟩) hHeld ?_ ?_
      rotate_left
      · rintro w' ⟨s0, s1, s2⟩
        go_simp
        with_reducible rfl
      rotate_left
      · simp only [Act.put, List.setIfInBounds_toArray, List.set_cons_zero, List.set_cons_succ, i64_w, i32_w]
        rfl
      refine pure_ (i := 3) (N := some 17) (v := ?_) (a' := ?_) #[true, true, true, true, false, false, false, false, false, false] rfl rfl (by kernel_rfl) (fun _ _ _ h => h) (Or.inl ⟨by rfl, ?_⟩) ?_ ?_
      rotate_left
      · intro w'
        go_simp
        with_reducible rfl
      rotate_left
      · simp only [Act.put, List.setIfInBounds_toArray, List.set_cons_zero, List.set_cons_succ, i64_w, i32_w]
        rfl
      refine pure_ (i := 4) (N := some 18) (v := ?_) (a' := ?_) #[true, true, true, true, true, false, false, false, false, false] rfl rfl (by kernel_rfl) (fun _ _ _ h => h) (Or.inl ⟨by rfl, ?_⟩) ?_ ?_
      rotate_left
      · intro w'
        go_simp
        with_reducible rfl
      rotate_left
      · simp only [Act.put, List.setIfInBounds_toArray, List.set_cons_zero, List.set_cons_succ, i64_w, i32_w]
        rfl
      refine take_ (i := 5) (N := some 19) (v := ?_) (a' := ?_) #[true, true, true, true, true, true, false, false, false, false] rfl rfl (by kernel_rfl) (fun _ _ _ h => h) (Or.inl ⟨by rfl, ?_⟩) hHeld ?_ ?_
      rotate_left
      · rintro w' ⟨s0, s1, s2⟩
        go_simp
        with_reducible rfl
      rotate_left
      · simp only [Act.put, List.setIfInBounds_toArray, List.set_cons_zero, List.set_cons_succ, i64_w, i32_w]
        rfl
      refine take_ (i := 6) (N := some 20) (v := ?_) (a' := ?_) #[true, true, true, true, true, true, true, false, false, false] rfl rfl (by kernel_rfl) (fun _ _ _ h => h) (Or.inl ⟨by rfl, ?_⟩) hHeld ?_ ?_
      rotate_left
      · rintro w' ⟨s0, s1, s2⟩
        go_simp
        with_reducible rfl
      rotate_left
      · simp only [Act.put, List.setIfInBounds_toArray, List.set_cons_zero, List.set_cons_succ, i64_w, i32_w]
        rfl
      refine one_ (i := 7) (N := some 21) #[true, true, true, true, true, true, true, true, false, false] rfl rfl (by kernel_rfl) (by decide) (fun K hK => ?_)
      refine goes_ Try.func18 (by kernel_rfl) rfl #[.pointer (some ⟨g, 0, none⟩)] (by rfl) rfl rfl (by first | rfl | (simp; done) | (simp only [List.map_toArray, List.map_cons, List.map_nil]; rfl)) ?_
      with_reducible refine (Used_calls G g s _ (by repeat (first | exact H3.out | (with_reducible refine IsD.dr ?_) | (with_reducible refine IsD.drN ?_ _))) HOK1.out).mono ?_
      rintro e w3 ⟨rfl, hb⟩
      refine ⟨_, rfl, ?_⟩
      refine hK.out _ _ ⟨(hb.cell (p := ⟨w.heap.size, 0, none⟩) HL1.out).trans hHeld.1, (hb.cell (p := ⟨w.heap.size + 2, 0, none⟩) HL3.out).trans hHeld.2.1, (hb.cell (p := ⟨g, 27, none⟩) HLG.out).trans hHeld.2.2⟩ (fun hHeld => ?_)
      clear hK K
      refine norm_ (a' := ?_) ?_ ?_
      rotate_left
      · show Act.put _ (some 21) _ = _
        simp only [Act.put, List.setIfInBounds_toArray, List.set_cons_zero, List.set_cons_succ, i64_w, i32_w]
        rfl
      refine pure_ (i := 8) (N := some 22) (v := ?_) (a' := ?_) #[true, true, true, true, true, true, true, true, true, false] rfl rfl (by kernel_rfl) (fun _ _ _ h => h) (Or.inl ⟨by rfl, ?_⟩) ?_ ?_
      rotate_left
      · intro w'
        go_simp
        with_reducible rfl
      rotate_left
      · simp only [Act.put, List.setIfInBounds_toArray, List.set_cons_zero, List.set_cons_succ, i64_w, i32_w]
        rfl
      refine pure_ (i := 9) (N := some 23) (v := ?_) (a' := ?_) #[true, true, true, true, true, true, true, true, true, true] rfl rfl (by kernel_rfl) (fun _ _ _ h => h) (Or.inl ⟨by rfl, ?_⟩) ?_ ?_
      rotate_left
      · intro w'
        go_simp
        with_reducible rfl
      rotate_left
      · simp only [Act.put, List.setIfInBounds_toArray, List.set_cons_zero, List.set_cons_succ, i64_w, i32_w]
        rfl
      refine done_ (by kernel_rfl) ?_
      have HB := Aside0.mk (below_step (below_drew1 (Below.refl wr.heap.size wr)) hb)
      have hc1 : w3.cell? ⟨w.heap.size, 0, none⟩ = some (.pointer (some ⟨g, 0, none⟩)) := (HB.out.cell (p := ⟨w.heap.size, 0, none⟩) HL1.out).trans hb1
      have hc3 : w3.cell? ⟨w.heap.size + 2, 0, none⟩ = some (.slice B bs.length cb) := (HB.out.cell (p := ⟨w.heap.size + 2, 0, none⟩) HL3.out).trans hb3
      have HC1 := Aside0.mk hc1
      have HC3 := Aside0.mk hc3
      have HC2 := Aside0.mk ((HB.out.cell (p := ⟨w.heap.size + 1, 0, none⟩) HL2.out).trans HB2.out)
      have HBV3 := Aside0.mk (HBV.out.step (fun b hb hlt => (HW.out.trans (Wr.of_below HB.out)).block b hlt hb))
      clear hb hb1 hb3 hc27 hw1 hw2
      go_wp2_with (fail)
      refine (act46_calls G g s bs.length (doneA j bs) (.pointer (some ⟨w.heap.size, 0, none⟩)) (.pointer (some ⟨w.heap.size + 1, 0, none⟩)) (.pointer (some ⟨w.heap.size + 2, 0, none⟩)) _ (H3.out.below HB.out) HOK.out.1 HBL.out (fun s' m w' hI hfs hW hm => ?cl) ((HOK.out.1.burn _).doneA HJ.out bs _ (by rw [fl_burn]; exact fits HOK.out.1 HJ.out bs (by have := HNF.out; omega))) (keepA j bs s _ _) HOK.out.2).mono ?_
      case cl =>
        have hs' : (fl s' j).seen.length ≤ 4194304 := by
          have := HOK.out.1.seen_le HJ.out
          unfold fl at this ⊢
          rw [hfs]; exact this
        exact c46_calls G g s' j m bs B cb w.heap.size (w.heap.size + 1) (w.heap.size + 2) w' hI HJ.out hs' (hW.cell (b := w.heap.size) HC1.out (by have := HG.out; omega)) (hW.cell (b := w.heap.size + 1) HC2.out (by have := HG.out; omega)) (hW.cell (b := w.heap.size + 2) HC3.out (by have := HG.out; omega)) (Kd.V_reads' (HBV3.out.step (fun b hb hlt => hW.block b hlt hb))).2.2 HCB.out hm HBL.out
      rintro e w4 ⟨rfl, hI, hW⟩
      have HI := Aside0.mk hI
      have HWF := Aside0.mk ((HW.out.trans (Wr.of_below HB.out)).trans hW)
      clear hI hW
      go_wp2
      go_ret
      rw [← HRR.out]
      exact ⟨rfl, HI.out, HWF.out⟩
end Go.Proofs.Ytehjbhnlbjbhfaa.Dk
-- DkK
namespace Go.Proofs.Ytehjbhnlbjbhfaa.Dk
open Go Go.RowKit Go.Proofs.YtehjbhnlbjbhfaaW.PrintWords Go.Proofs.YtehjbhnlbjbhfaaW.PrintLast Go.Proofs.YtehjbhnlbjbhfaaW.PrintMore
open Go.Proofs.Ytehjbhnlbjbhfaa.PDiskBegins
attribute [local go_sem] max2_int min2_int max_two min_two
set_option linter.unusedVariables false
set_option linter.unusedSimpArgs false
def zDV (room : Int) : DV := ⟨false, 0, .slice none 0 0, List.replicate 8 nv, room, false⟩
theorem zRows (G : Nat → Prop) (W : World) (room : Int) : Rows G W (zDV room) (newP room) := by
  refine ⟨rfl, rfl, Rw.nil _ _ _, rfl, rfl, rfl, fun i hi => ?_⟩
  have h1 : (zDV room).f i = nv := by rcases below8 hi with rfl | rfl | rfl | rfl | rfl | rfl | rfl | rfl <;> rfl
  have h2 : fl (newP room) i = nf := by rcases below8 hi with rfl | rfl | rfl | rfl | rfl | rfl | rfl | rfl <;> rfl
  rw [h1, h2]
  exact ⟨Rw.nil _ _ _, Rw.nil _ _ _, rfl⟩
set_option maxHeartbeats 8000000 in
set_option maxRecDepth 100000 in
theorem New_calls (room : Int) (w : World) (h1 : 1 ≤ room) (h2 : room ≤ 4194304) : Calls Try.prog 10 #[.int .i64 room] w fun e w' => ∃ b, e = .returned (.tuple #[.pointer (some ⟨b, 0, none⟩), .int .i64 0]) ∧ w.heap.size ≤ b ∧ b < w'.heap.size ∧ Below w.heap.size w w' ∧ ∀ G : Nat → Prop, (∀ k, G k → k < w'.heap.size) → G b → IsD G w' b (newP room) := by
  have d1 : decide (room < 1) = false := decide_eq_false (by omega)
  have d2 : decide (4194304 < room) = false := decide_eq_false (by omega)
  clear h1 h2
  go_enter Try.func10, Try.ntmps10
  go_wp2
  go_ret2
  refine ⟨w.heap.size, rfl, Nat.le_refl _, by simp, below_alloc (Below.refl _ _) _, fun G hG hb => ⟨hG, hb, zDV room, ⟨rfl, ?_⟩, zRows _ _ _⟩⟩
  exact blk_new w _
end Go.Proofs.Ytehjbhnlbjbhfaa.Dk
-- DkL
namespace Go.Proofs.Ytehjbhnlbjbhfaa.Dk
open Go Go.RowKit Go.Proofs.YtehjbhnlbjbhfaaW.PrintWords Go.Proofs.YtehjbhnlbjbhfaaW.PrintLast Go.Proofs.YtehjbhnlbjbhfaaW.PrintMore
open Go.Proofs.Ytehjbhnlbjbhfaa.PDiskBegins
attribute [local go_sem] max2_int min2_int max_two min_two
set_option linter.unusedVariables false
set_option linter.unusedSimpArgs false
end Go.Proofs.Ytehjbhnlbjbhfaa.Dk
-- DkM
namespace Go.Proofs.Ytehjbhnlbjbhfaa.Dk
open Go Go.RowKit Go.Proofs.YtehjbhnlbjbhfaaW.PrintWords Go.Proofs.YtehjbhnlbjbhfaaW.PrintLast Go.Proofs.YtehjbhnlbjbhfaaW.PrintMore
open Go.Proofs.Ytehjbhnlbjbhfaa.PDiskBegins
attribute [local go_sem] max2_int min2_int max_two min_two
set_option linter.unusedVariables false
set_option linter.unusedSimpArgs false
theorem Rw.came {G : Nat → Prop} {k : IntKind} {w : World} {A : Option Addr} {c : Nat} {xs : List Int} (h : (Kd.int k).C w A xs.length xs) (hc : xs.length ≤ c) (hG : ∀ b, G b → w.heap.size ≤ b) : Rw G k w (.slice A xs.length c) xs :=
  Kd.V_mk hc (Kd.F_mono (Kd.C_F (Kd.heap_int k) h) (fun b hb hg => by have := hG b hg; omega))
end Go.Proofs.Ytehjbhnlbjbhfaa.Dk
