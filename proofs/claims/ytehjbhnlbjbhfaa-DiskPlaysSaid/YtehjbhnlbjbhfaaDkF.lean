/- Contracts of the disk's acts: Clear, Sync, Append. -/
import Derived.Test.YtehjbhnlbjbhfaaDkE
import Derived.RegionTactic
import Derived.ChangeAlike
namespace Go.Proofs.Ytehjbhnlbjbhfaa.Dk
open Go Go.RowKit Go.Proofs.YtehjbhnlbjbhfaaW.PrintWords Go.Proofs.YtehjbhnlbjbhfaaW.PrintLast Go.Proofs.YtehjbhnlbjbhfaaW.PrintMore
open Go.Proofs.Ytehjbhnlbjbhfaa.PDiskBegins
attribute [local go_sem] max2_int min2_int max_two min_two
set_option linter.unusedVariables false
set_option linter.unusedSimpArgs false
theorem f_set (d : DV) (x : FV) {i : Nat} (hd : d.fs.length = 8) (hi : i < 8) : (DV.f { d with fs := d.fs.set i x } i) = x := by
  unfold DV.f
  rw [List.getD_eq_getElem?_getD, List.getElem?_set_self (by rw [hd]; exact hi)]; rfl
theorem At.setSC {W : World} {g : Nat} {d : DV} (h : At W g d) {i : Nat} (hi : i < 8) (v : Value) (b : Bool) : At ((W.setCell ⟨g, 3 + i * 3, none⟩ v).setCell ⟨g, 3 + i * 3 + 2, none⟩ (.bool b)) g { d with fs := d.fs.set i ⟨v, (d.f i).lv, b⟩ } := by
  have h3 := (h.setS hi v).setC hi b
  rw [f_set d _ h.1 hi] at h3
  simpa only [List.set_set] using h3
theorem At.setLC {W : World} {g : Nat} {d : DV} (h : At W g d) {i : Nat} (hi : i < 8) (v : Value) (b : Bool) : At ((W.setCell ⟨g, 3 + i * 3 + 1, none⟩ v).setCell ⟨g, 3 + i * 3 + 2, none⟩ (.bool b)) g { d with fs := d.fs.set i ⟨(d.f i).sv, v, b⟩ } := by
  have h3 := (h.setL hi v).setC hi b
  rw [f_set d _ h.1 hi] at h3
  simpa only [List.set_set] using h3
theorem At.drew {W : World} {g : Nat} {d : DV} (h : At W g d) : At W.drew g d := h
theorem Wr.drew {g : Nat} {w w1 : World} (h : Wr g w w1) : Wr g w w1.drew := ⟨h.os, h.tape, h.output, h.size, h.block⟩
theorem IsD.file {G : Nat → Prop} {g : Nat} {W W' : World} {d : DV} {s : DS} {i : Nat} {v : FV} {f : Fl} (h : IsD G W g s) (hA : d.fs.length = 8) (hR : Rows G W d s) (hi : i < 8) (hA' : At W' g { d with fs := d.fs.set i v }) (hw : Wr g W W') (hf : FR G W' v f) : IsD G W' g (setF s i f) :=
  ⟨fun b hb => Nat.lt_of_lt_of_le (h.lt b hb) hw.size, h.gg, _, hA', (hR.wr hw h.gg).file hA hi hf rfl rfl⟩
set_option maxHeartbeats 8000000 in
set_option maxRecDepth 100000 in
theorem c47_calls (G : Nat → Prop) (g : Nat) (s : DS) (i n : Nat) (b1 b2 : Nat) (w : World) (h : IsD G w g s) (hi : i < 8) (h1 : w.cell? ⟨b1, 0, none⟩ = some (.pointer (some ⟨g, 0, none⟩))) (h2 : w.cell? ⟨b2, 0, none⟩ = some (.int .i64 (i : Int))) (n1 : b1 ≠ g) (n2 : b2 ≠ g) :
    Calls Try.prog 73 #[.int .i64 (n : Int), .pointer (some ⟨b1, 0, none⟩), .pointer (some ⟨b2, 0, none⟩)] w fun e w' => e = .returned (.tuple #[]) ∧ IsD G w' g (doneC i s n) ∧ Wr g w w' := by
  have H := Aside0.mk h
  obtain ⟨_, _, d, hA, hR⟩ := h
  have HA := Aside0.mk hA
  have HR := Aside0.mk hR
  by_cases c : n = 1
  · have HD := Aside0.mk (show doneC i s n = setF s i ⟨[], (fl s i).lasts, true⟩ by unfold doneC; rw [if_pos c])
    rw [HD.out]
    subst c
    rw [show ((1 : Nat) : Int) = 1 from rfl]
    obtain ⟨A, cc, hv, _, _⟩ := (hR.2.2.2.2.2.2 i hi).1.slice
    obtain ⟨B, bb, hx, _, _⟩ := (hR.2.2.2.2.2.2 i hi).2.1.slice
    have HV := Aside0.mk hv
    have hs := hA.sv hi
    have hl := hA.lv hi
    rw [hv] at hs
    rw [hx] at hl
    have hc := hA.cl hi
    have hfs := hA.frozen (3 + i * 3)
    have hfl := hA.frozen (3 + i * 3 + 1)
    have hfc := hA.frozen (3 + i * 3 + 2)
    clear hA hR hv hx
    go_enter Try.func73, Try.ntmps73
    go_wp2
    go_region
    first | go_end0 | ((try simp only [Exit.inBlock, Exit.then]); refine bodyPost_ret (results_none rfl _ _ _) rfl ?_)
    have hw := (((Wr.refl g w).set (3 + i * 3) (.slice none 0 0)).set (3 + i * 3 + 2) (.bool true)).drew
    refine ⟨rfl, H.out.file HA.out.1 HR.out hi (HA.out.setSC hi (.slice none 0 0) true).drew hw ?_, hw⟩
    exact ⟨Rw.nil _ _ _, (HR.out.2.2.2.2.2.2 i hi).2.1.wr hw H.out.gg, rfl⟩
  · have HD := Aside0.mk (show doneC i s n = s by unfold doneC; rw [if_neg c])
    rw [HD.out]
    have c1 : ((n : Int) == (1 : Int)) = false := by simp only [beq_eq_false_iff_ne]; omega
    have c2 : decide (n = 1) = false := decide_eq_false c
    clear c hA hR
    go_enter Try.func73, Try.ntmps73
    go_wp2
    first | go_end0 | ((try simp only [Exit.inBlock, Exit.then]); refine bodyPost_ret (results_none rfl _ _ _) rfl ?_)
    exact ⟨rfl, H.out, Wr.refl _ _⟩
set_option maxHeartbeats 8000000 in
set_option maxRecDepth 100000 in
theorem c44_calls (G : Nat → Prop) (g : Nat) (s : DS) (i n : Nat) (b1 b2 : Nat) (w : World) (h : IsD G w g s) (hi : i < 8) (h1 : w.cell? ⟨b1, 0, none⟩ = some (.pointer (some ⟨g, 0, none⟩))) (h2 : w.cell? ⟨b2, 0, none⟩ = some (.int .i64 (i : Int))) (n1 : b1 ≠ g) (n2 : b2 ≠ g) :
    Calls Try.prog 72 #[.int .i64 (n : Int), .pointer (some ⟨b1, 0, none⟩), .pointer (some ⟨b2, 0, none⟩)] w fun e w' => e = .returned (.tuple #[]) ∧ IsD G w' g (doneY i s n) ∧ Wr g w w' := by
  have H := Aside0.mk h
  obtain ⟨_, _, d, hA, hR⟩ := h
  have HA := Aside0.mk hA
  have HR := Aside0.mk hR
  by_cases c : n = 1
  · have HD := Aside0.mk (show doneY i s n = setF s i ⟨(fl s i).seen, (fl s i).seen, false⟩ by unfold doneY; rw [if_pos c])
    rw [HD.out]
    subst c
    rw [show ((1 : Nat) : Int) = 1 from rfl]
    obtain ⟨A, cc, hv, _, _⟩ := (hR.2.2.2.2.2.2 i hi).1.slice
    obtain ⟨B, bb, hx, _, _⟩ := (hR.2.2.2.2.2.2 i hi).2.1.slice
    have HV := Aside0.mk hv
    have hs := hA.sv hi
    have hl := hA.lv hi
    rw [hv] at hs
    rw [hx] at hl
    have hc := hA.cl hi
    have hfs := hA.frozen (3 + i * 3)
    have hfl := hA.frozen (3 + i * 3 + 1)
    have hfc := hA.frozen (3 + i * 3 + 2)
    clear hA hR hv hx
    go_enter Try.func72, Try.ntmps72
    go_wp2
    go_region
    first | go_end0 | ((try simp only [Exit.inBlock, Exit.then]); refine bodyPost_ret (results_none rfl _ _ _) rfl ?_)
    have hw := (((Wr.refl g w).set (3 + i * 3 + 1) (.slice A (fl s i).seen.length cc)).set (3 + i * 3 + 2) (.bool false)).drew
    refine ⟨rfl, H.out.file HA.out.1 HR.out hi (HA.out.setLC hi (.slice A (fl s i).seen.length cc) false).drew hw ?_, hw⟩
    exact ⟨(HR.out.2.2.2.2.2.2 i hi).1.wr hw H.out.gg, by have h9 := (HR.out.2.2.2.2.2.2 i hi).1; rw [HV.out] at h9; exact h9.wr hw H.out.gg, rfl⟩
  · have HD := Aside0.mk (show doneY i s n = s by unfold doneY; rw [if_neg c])
    rw [HD.out]
    have c1 : ((n : Int) == (1 : Int)) = false := by simp only [beq_eq_false_iff_ne]; omega
    have c2 : decide (n = 1) = false := decide_eq_false c
    clear c hA hR
    go_enter Try.func72, Try.ntmps72
    go_wp2
    first | go_end0 | ((try simp only [Exit.inBlock, Exit.then]); refine bodyPost_ret (results_none rfl _ _ _) rfl ?_)
    exact ⟨rfl, H.out, Wr.refl _ _⟩
end Go.Proofs.Ytehjbhnlbjbhfaa.Dk
