/- Contracts of the disk's methods. -/
import Derived.Test.YtehjbhnlbjbhfaaDkH
import Derived.Test.YtehjbhnlbjbhfaaDkO
namespace Go.Proofs.Ytehjbhnlbjbhfaa.Dk
open Go Go.RowKit Go.Proofs.YtehjbhnlbjbhfaaW.PrintWords Go.Proofs.YtehjbhnlbjbhfaaW.PrintLast Go.Proofs.YtehjbhnlbjbhfaaW.PrintMore
open Go.Proofs.Ytehjbhnlbjbhfaa.PDiskBegins
attribute [local go_sem] max2_int min2_int max_two min_two
set_option linter.unusedVariables false
set_option linter.unusedSimpArgs false
theorem IsD.dr {G : Nat → Prop} {g : Nat} {W : World} {s : DS} (h : IsD G W g s) : IsD G W.drew g s := h.below (below_drew1 (Below.refl _ _))
theorem IsD.drN {G : Nat → Prop} {g : Nat} {W : World} {s : DS} (h : IsD G W g s) (n : Nat) : IsD G (W.drewN n) g s := h.below (pw_below_drewN (Below.refl _ _) n)
theorem IsD.al {G : Nat → Prop} {g : Nat} {W : World} {s : DS} (h : IsD G W g s) (o : Obj) : IsD G (W.alloc o) g s := h.below (below_alloc (Below.refl _ _) o)
theorem IsD.ltg {G : Nat → Prop} {g : Nat} {W : World} {s : DS} (h : IsD G W g s) : g < W.heap.size := h.lt g h.gg
/-- A cell of another block stays. -/
theorem Wr.cell {g : Nat} {w w' : World} (h : Wr g w w') {b o : Nat} {v : Value} (hc : w.cell? ⟨b, o, none⟩ = some v) (hne : b ≠ g) : w'.cell? ⟨b, o, none⟩ = some v := by
  have hb := h.block b (World.block_lt_of_cell? w _ hc) hne
  simpa [World.cell?, hb] using hc
set_option maxHeartbeats 8000000 in
set_option maxRecDepth 100000 in
theorem Clear_calls (G : Nat → Prop) (g : Nat) (s : DS) (i : Int) (w : World) (h : IsD G w g s) (hok : Okk s) : Calls Try.prog 55 #[.pointer (some ⟨g, 0, none⟩), .int .i64 i] w fun e w' => e = .returned (.int .i64 (clearP s i).2) ∧ IsD G w' g (clearP s i).1 ∧ Wr g w w' := by
  have H := Aside0.mk h
  have HOK := Aside0.mk hok
  have HG := Aside0.mk h.ltg
  have H2 := Aside0.mk ((h.al (.cells #[.pointer (some ⟨g, 0, none⟩)] 23)).al (.cells #[.int .i64 i] 3))
  have HAB := Aside0.mk (able_calls G g s i _ H2.out)
  have HW2 := Aside0.mk (Wr.of_below (g := g) (below_alloc (below_alloc (Below.refl w.heap.size w) (.cells #[.pointer (some ⟨g, 0, none⟩)] 23)) (.cells #[.int .i64 i] 3)))
  rcases able_cases s i with c | ⟨c, j, hj, rfl, _, _⟩
  · have HR := Aside0.mk (show clearP s i = (s, ableP s i) by unfold clearP; rw [if_pos c])
    have c1 : (ableP s i != (0 : Int)) = true := by simpa using c
    have c2 : (ableP s i == (0 : Int)) = false := by simpa using c
    rw [HR.out]
    clear h c HR hok
    generalize ableP s i = er at *
    go_enter Try.func55, Try.ntmps55
    go_wp2_with (fail)
    refine (HAB.out).mono ?_
    rintro e w1 ⟨rfl, ⟨nd, rfl⟩⟩
    go_wp2
    go_ret
    exact ⟨rfl, H2.out.drN nd, HW2.out.drew1 nd⟩
  · have HR := Aside0.mk (show clearP s (j : Int) = actP s 1 (doneC j) by unfold clearP; rw [if_neg (by rw [c]; decide), Int.toNat_natCast])
    rw [c] at HAB
    rw [HR.out]
    have HJ := Aside0.mk hj
    have hb1 : ((w.alloc (.cells #[.pointer (some ⟨g, 0, none⟩)] 23)).alloc (.cells #[.int .i64 (j : Int)] 3)).cell? ⟨w.heap.size, 0, none⟩ = some (.pointer (some ⟨g, 0, none⟩)) := (blk_cell (blk_alloc (blk_new w _) _) 0).trans rfl
    have hb2 : ((w.alloc (.cells #[.pointer (some ⟨g, 0, none⟩)] 23)).alloc (.cells #[.int .i64 (j : Int)] 3)).cell? ⟨w.heap.size + 1, 0, none⟩ = some (.int .i64 (j : Int)) := by
      have := blk_new (w.alloc (.cells #[.pointer (some ⟨g, 0, none⟩)] 23)) (.cells #[.int .i64 (j : Int)] 3)
      rw [show (w.alloc (.cells #[.pointer (some ⟨g, 0, none⟩)] 23)).heap.size = w.heap.size + 1 by simp] at this
      exact (blk_cell this 0).trans rfl
    have HB1 := Aside0.mk hb1
    have HB2 := Aside0.mk hb2
    clear h c HR hok hb1 hb2 hj
    go_enter Try.func55, Try.ntmps55
    go_wp2_with (fail)
    refine (HAB.out).mono ?_
    rintro e w1 ⟨rfl, ⟨nd, rfl⟩⟩
    go_wp2_with (fail)
    refine (act47_calls G g s 1 (doneC j) (.pointer (some ⟨w.heap.size, 0, none⟩)) (.pointer (some ⟨w.heap.size + 1, 0, none⟩)) _ (H2.out.drN nd) HOK.out.1 (by decide) (fun s' m w' hI hfs hW hm => c47_calls G g s' j m w.heap.size (w.heap.size + 1) w' hI HJ.out (hW.cell (b := w.heap.size) HB1.out (by have := HG.out; omega)) (hW.cell (b := w.heap.size + 1) HB2.out (by have := HG.out; omega)) (by have := HG.out; omega) (by have := HG.out; omega)) ((HOK.out.1.burn 1).doneC HJ.out _) (keepC j s 1 _) HOK.out.2).mono ?_
    rintro e w2 ⟨rfl, hI, hW⟩
    have HI := Aside0.mk hI
    have HWF := Aside0.mk ((HW2.out.drew1 nd).trans hW)
    clear hI hW
    go_wp2
    go_ret
    exact ⟨rfl, HI.out, HWF.out⟩
set_option maxHeartbeats 8000000 in
set_option maxRecDepth 100000 in
theorem Sync_calls (G : Nat → Prop) (g : Nat) (s : DS) (i : Int) (w : World) (h : IsD G w g s) (hok : Okk s) : Calls Try.prog 54 #[.pointer (some ⟨g, 0, none⟩), .int .i64 i] w fun e w' => e = .returned (.int .i64 (syncP s i).2) ∧ IsD G w' g (syncP s i).1 ∧ Wr g w w' := by
  have H := Aside0.mk h
  have HOK := Aside0.mk hok
  have HG := Aside0.mk h.ltg
  have H2 := Aside0.mk ((h.al (.cells #[.pointer (some ⟨g, 0, none⟩)] 23)).al (.cells #[.int .i64 i] 3))
  have HAB := Aside0.mk (able_calls G g s i _ H2.out)
  have HW2 := Aside0.mk (Wr.of_below (g := g) (below_alloc (below_alloc (Below.refl w.heap.size w) (.cells #[.pointer (some ⟨g, 0, none⟩)] 23)) (.cells #[.int .i64 i] 3)))
  rcases able_cases s i with c | ⟨c, j, hj, rfl, _, _⟩
  · have HR := Aside0.mk (show syncP s i = (s, ableP s i) by unfold syncP; rw [if_pos c])
    have c1 : (ableP s i != (0 : Int)) = true := by simpa using c
    have c2 : (ableP s i == (0 : Int)) = false := by simpa using c
    rw [HR.out]
    clear h c HR hok
    generalize ableP s i = er at *
    go_enter Try.func54, Try.ntmps54
    go_wp2_with (fail)
    refine (HAB.out).mono ?_
    rintro e w1 ⟨rfl, ⟨nd, rfl⟩⟩
    go_wp2
    go_ret
    exact ⟨rfl, H2.out.drN nd, HW2.out.drew1 nd⟩
  · have HR := Aside0.mk (show syncP s (j : Int) = actP s 1 (doneY j) by unfold syncP; rw [if_neg (by rw [c]; decide), Int.toNat_natCast])
    rw [c] at HAB
    rw [HR.out]
    have HJ := Aside0.mk hj
    have hb1 : ((w.alloc (.cells #[.pointer (some ⟨g, 0, none⟩)] 23)).alloc (.cells #[.int .i64 (j : Int)] 3)).cell? ⟨w.heap.size, 0, none⟩ = some (.pointer (some ⟨g, 0, none⟩)) := (blk_cell (blk_alloc (blk_new w _) _) 0).trans rfl
    have hb2 : ((w.alloc (.cells #[.pointer (some ⟨g, 0, none⟩)] 23)).alloc (.cells #[.int .i64 (j : Int)] 3)).cell? ⟨w.heap.size + 1, 0, none⟩ = some (.int .i64 (j : Int)) := by
      have := blk_new (w.alloc (.cells #[.pointer (some ⟨g, 0, none⟩)] 23)) (.cells #[.int .i64 (j : Int)] 3)
      rw [show (w.alloc (.cells #[.pointer (some ⟨g, 0, none⟩)] 23)).heap.size = w.heap.size + 1 by simp] at this
      exact (blk_cell this 0).trans rfl
    have HB1 := Aside0.mk hb1
    have HB2 := Aside0.mk hb2
    clear h c HR hok hb1 hb2 hj
    go_enter Try.func54, Try.ntmps54
    go_wp2_with (fail)
    refine (HAB.out).mono ?_
    rintro e w1 ⟨rfl, ⟨nd, rfl⟩⟩
    go_wp2_with (fail)
    refine (act44_calls G g s 1 (doneY j) (.pointer (some ⟨w.heap.size, 0, none⟩)) (.pointer (some ⟨w.heap.size + 1, 0, none⟩)) _ (H2.out.drN nd) HOK.out.1 (by decide) (fun s' m w' hI hfs hW hm => c44_calls G g s' j m w.heap.size (w.heap.size + 1) w' hI HJ.out (hW.cell (b := w.heap.size) HB1.out (by have := HG.out; omega)) (hW.cell (b := w.heap.size + 1) HB2.out (by have := HG.out; omega)) (by have := HG.out; omega) (by have := HG.out; omega)) ((HOK.out.1.burn 1).doneY HJ.out _) (keepY j s 1 _) HOK.out.2).mono ?_
    rintro e w2 ⟨rfl, hI, hW⟩
    have HI := Aside0.mk hI
    have HWF := Aside0.mk ((HW2.out.drew1 nd).trans hW)
    clear hI hW
    go_wp2
    go_ret
    exact ⟨rfl, HI.out, HWF.out⟩
set_option maxHeartbeats 8000000 in
set_option maxRecDepth 100000 in
theorem Crash_calls (G : Nat → Prop) (g : Nat) (s : DS) (kV : Value) (keep : List Int) (w : World) (h : IsD G w g s) (hok : Okk s) (hk : Rw (fun b => b = g) .i64 w kV keep) (hkr : I64 keep) : Calls Try.prog 47 #[.pointer (some ⟨g, 0, none⟩), kV] w fun e w' => e = .returned (.int .i64 (crashP s keep).2) ∧ IsD G w' g (crashP s keep).1 ∧ Wr g w w' := by
  have H := Aside0.mk h
  have HOK := Aside0.mk hok
  have HK := Aside0.mk hk
  have HKR := Aside0.mk hkr
  have HAB := Aside0.mk (able_calls G g s 0 w h)
  obtain ⟨A, cc, rfl, _, _⟩ := hk.slice
  by_cases c : ableP s 0 ≠ 0
  · have HR := Aside0.mk (show crashP s keep = (s, ableP s 0) by unfold crashP; rw [if_pos c])
    have c1 : (ableP s 0 != (0 : Int)) = true := by simpa using c
    have c2 : (ableP s 0 == (0 : Int)) = false := by simpa using c
    rw [HR.out]
    clear h c HR hok hk hkr
    generalize ableP s 0 = er at *
    go_enter Try.func47, Try.ntmps47
    go_wp2_with (fail)
    refine (HAB.out).mono ?_
    rintro e w1 ⟨rfl, ⟨nd, rfl⟩⟩
    go_wp2
    go_ret
    exact ⟨rfl, H.out.drN nd, (Wr.refl g w).drew1 nd⟩
  · have HR := Aside0.mk (show crashP s keep = (fallP s keep, 0) by unfold crashP; rw [if_neg c])
    rw [Decidable.not_not.1 c] at HAB
    rw [HR.out]
    clear h c HR hok hk hkr
    go_enter Try.func47, Try.ntmps47
    go_wp2_with (fail)
    refine (HAB.out).mono ?_
    rintro e w1 ⟨rfl, ⟨nd, rfl⟩⟩
    go_wp2_with (fail)
    refine (fall_calls G g s _ keep _ (H.out.drN nd) HOK.out.1 (HK.out.below (pw_below_drewN (Below.refl _ _) nd)) HKR.out).mono ?_
    rintro e w2 ⟨rfl, hI, hW⟩
    have HI := Aside0.mk hI
    have HWF := Aside0.mk (((Wr.refl g w).drew1 nd).trans hW)
    clear hI hW
    go_wp2
    go_ret
    exact ⟨rfl, HI.out, HWF.out⟩
set_option maxHeartbeats 8000000 in
set_option maxRecDepth 100000 in
theorem Arm_calls (G : Nat → Prop) (g : Nat) (s : DS) (n : Int) (kV : Value) (keep : List Int) (w : World) (h : IsD G w g s) (hok : Okk s) (hk : Rw (fun b => b = g) .i64 w kV keep) (hkl : keep.length < 1000000000) : Calls Try.prog 42 #[.pointer (some ⟨g, 0, none⟩), .int .i64 n, kV] w fun e w' => e = .returned (.int .i64 (armP s n keep).2) ∧ IsD G w' g (armP s n keep).1 ∧ Wr g w w' := by
  have H := Aside0.mk h
  have HOK := Aside0.mk hok
  have HK := Aside0.mk hk
  have HAB := Aside0.mk (able_calls G g s 0 w h)
  obtain ⟨A, cc, rfl, hcc, hC⟩ := hk.slice
  have HC := Aside0.mk (And.intro hcc hC)
  have HKL := Aside0.mk (show keep.length < 17592186044416 by omega)
  by_cases c : ableP s 0 ≠ 0
  · have HR := Aside0.mk (show armP s n keep = (s, ableP s 0) by unfold armP; rw [if_pos c])
    have c1 : (ableP s 0 != (0 : Int)) = true := by simpa using c
    have c2 : (ableP s 0 == (0 : Int)) = false := by simpa using c
    rw [HR.out]
    clear h c HR hok hk hkl hcc hC
    generalize ableP s 0 = er at *
    go_enter Try.func42, Try.ntmps42
    go_wp2_with (fail)
    refine (HAB.out).mono ?_
    rintro e w1 ⟨rfl, ⟨nd, rfl⟩⟩
    go_wp2
    go_ret
    exact ⟨rfl, H.out.drN nd, (Wr.refl g w).drew1 nd⟩
  · rw [Decidable.not_not.1 c] at HAB
    by_cases c1 : n < 1
    · have HR := Aside0.mk (show armP s n keep = (s, 1) by unfold armP; rw [if_neg c, if_pos c1])
      rw [HR.out]
      have d1 : decide (n < 1) = true := decide_eq_true c1
      clear h c HR hok hk hkl hcc hC
      go_enter Try.func42, Try.ntmps42
      go_wp2_with (fail)
      refine (HAB.out).mono ?_
      rintro e w1 ⟨rfl, ⟨nd, rfl⟩⟩
      go_wp2
      go_ret
      exact ⟨rfl, H.out.drN nd, (Wr.refl g w).drew1 nd⟩
    · have HR := Aside0.mk (show armP s n keep = ({ s with set := true, left := n, keep := keep }, 0) by unfold armP; rw [if_neg c, if_neg c1])
      rw [HR.out]
      have d1 : decide (n < 1) = false := decide_eq_false c1
      clear h c HR hok hk hkl hcc hC c1
      go_enter Try.func42, Try.ntmps42
      go_wp2_with (fail)
      refine (HAB.out).mono ?_
      rintro e w1 ⟨rfl, ⟨nd, rfl⟩⟩
      go_wp2_with (fail)
      refine (Clone_i A cc keep _ (Kd.C_drewN HC.out.2 nd) HC.out.1 HKL.out).mono ?_
      rintro e w2 ⟨v, rfl, hR2, hB2⟩
      obtain ⟨A2, c2, rfl⟩ := Kd.R_slice hR2
      have H2 := Aside0.mk ((H.out.drN nd).below hB2)
      have HW2 := Aside0.mk (((Wr.refl g w).drew1 nd).trans (Wr.of_below hB2))
      have HRW := Aside0.mk (Rw.of_R hR2 (G := G) (fun b hb => (H.out.drN nd).lt b hb))
      clear hR2 hB2
      obtain ⟨_, _, d, hA, hR⟩ := H2.out
      have hc0 := hA.c0
      have hc1 := hA.c1
      have hc2 := hA.c2
      have hf0 := hA.frozen 0
      have hf1 := hA.frozen 1
      have hf2 := hA.frozen 2
      obtain ⟨A3, c3, hv, _, _⟩ := hR.2.2.1.slice
      rw [hv] at hc2
      have HA := Aside0.mk hA
      have HR := Aside0.mk hR
      clear hA hR hv
      go_wp2
      go_ret
      have hw := (((Wr.refl g w2).set 0 (.bool true)).set 1 (.int .i64 n)).set 2 (.slice A2 keep.length c2)
      have hr := HR.out.wr hw H2.out.gg
      refine ⟨rfl, ⟨fun b hb => Nat.lt_of_lt_of_le (H2.out.lt b hb) hw.size, H2.out.gg, _, ((HA.out.set0 true).set1 n).set2 _, rfl, rfl, HRW.out.wr hw H2.out.gg, hr.2.2.2.1, hr.2.2.2.2.1, hr.2.2.2.2.2.1, hr.2.2.2.2.2.2⟩, HW2.out.trans hw⟩
end Go.Proofs.Ytehjbhnlbjbhfaa.Dk
