/- Contracts of the document's disk: Arm, Append. -/
import Derived.Test.YtehjbhnlbjbhfaaRdE
namespace Go.Proofs.Ytehjbhnlbjbhfaa.Rd
open Go Go.RowKit Go.Proofs.YtehjbhnlbjbhfaaW.PrintWords Go.Proofs.YtehjbhnlbjbhfaaW.PrintLast Go.Proofs.YtehjbhnlbjbhfaaW.PrintMore Go.Proofs.Ytehjbhnlbjbhfaa.Dk
open Go.Proofs.Ytehjbhnlbjbhfaa.PDiskBegins
attribute [local go_sem] max2_int min2_int max_two min_two
set_option linter.unusedVariables false
set_option linter.unusedSimpArgs false
set_option maxHeartbeats 8000000 in
set_option maxRecDepth 100000 in
theorem RArm_calls (G : Nat → Prop) (x : Nat) (s : DS) (n : Int) (kV : Value) (keep : List Int) (w : World) (h : IsX G w x s) (hok : Okk s) (hr : s.room ≠ 0) (hk : Rw (fun b => b = x) .i64 w kV keep) (hkl : keep.length < 1000000000) : Calls Try.prog 51 #[.pointer (some ⟨x, 0, none⟩), .int .i64 n, kV] w fun e w' => e = .returned (.int .i64 (armP s n keep).2) ∧ IsX G w' x (armP s n keep).1 ∧ Wr x w w' := by
  have H := Aside0.mk h
  have HE := Aside0.mk (show armP s n keep = if s.off = true then (s, 50) else if n < 1 then (s, 1) else ({ s with set := true, left := n, keep := keep }, 0) by
    unfold armP; rw [able_may hr, may0]
    by_cases c : s.off = true
    · rw [if_pos c, if_pos c, if_pos (by decide)]
    · rw [if_neg c, if_neg c, if_neg (by decide)])
  obtain ⟨_, _, kv, hA, hR⟩ := h
  have hc25 : w.cell? ⟨x, 25, none⟩ = some (.bool s.off) := hA.c25
  have hc26 := hA.c26
  have hf26 := hA.frozen 26
  have hc27 : w.cell? ⟨x, 27, none⟩ = some kv := hA.c27
  have hf27 := hA.frozen 27
  have HA := Aside0.mk hA
  obtain ⟨A, cc, rfl, hcc, hC⟩ := hk.slice
  obtain ⟨A1, c1, hkv, _, _⟩ := hR.slice
  rw [hkv] at hc27
  have HKV := Aside0.mk hkv
  clear hkv
  obtain ⟨r, hrr⟩ : ∃ r, armP s n keep = r := ⟨_, rfl⟩
  rw [hrr] at HE ⊢
  generalize (toXV s kv).fuse = ff at hc26
  have HX := Aside0.mk hA.lt
  have HK := Aside0.mk hk
  clear hA hR hok hk hrr hC
  by_cases c : s.off = true
  · have HE1 := Aside0.mk (HE.out.trans (if_pos c))
    rw [c] at hc25
    clear c HE
    go_enter Try.func51, Try.ntmps51
    go_wp2_with (fail)
    go_ret
    rw [HE1.out]
    exact ⟨rfl, H.out, Wr.refl _ _⟩
  · have HE1 := Aside0.mk (HE.out.trans (if_neg c))
    rw [show s.off = false by simpa using c] at hc25
    clear c HE
    by_cases c : n < 1
    · have HE2 := Aside0.mk (HE1.out.trans (if_pos c))
      have d1 : decide (n < 1) = true := decide_eq_true c
      clear c HE1
      go_enter Try.func51, Try.ntmps51
      go_wp2_with (fail)
      go_ret
      rw [HE2.out]
      exact ⟨rfl, H.out, Wr.refl _ _⟩
    · have HE2 := Aside0.mk (HE1.out.trans (if_neg c))
      have d1 : decide (n < 1) = false := decide_eq_false c
      clear c HE1
      have HA1 := Aside0.mk (show AtX (w.setCell ⟨x, 26, none⟩ (.int .i64 n)) x { toXV s kv with fuse := n } from HA.out.set26 n)
      have HR1 := Aside0.mk (show Wr x w (w.setCell ⟨x, 26, none⟩ (.int .i64 n)) from (Wr.refl x w).set 26 (.int .i64 n))
      have HC1 := Aside0.mk (Kd.V_reads' (HK.out.wr HR1.out rfl)).2.2
      have hc27' : (w.setCell ⟨x, 26, none⟩ (.int .i64 n)).cell? ⟨x, 27, none⟩ = some (.slice A1 s.keep.length c1) := by rw [← HKV.out]; exact HA1.out.c27
      have hf27' := HA1.out.frozen 27
      have HX1 := Aside0.mk HA1.out.lt
      go_enter Try.func51, Try.ntmps51
      go_wp2_with (first | ((with_reducible refine gate_dst (N := 18) rfl ?_); refine Kd.R_lit (Kd.int .i64) _ 3 ?hg (N := 18) ?hd (xs := ([] : List Int)) (inner := []) (ok := fun _ => True) (okp := fun _ => True) ?hr ?hp (fun _ hk => hk) trivial (Below.refl _ _) (Nat.le_refl _) (by simp) ?_; (case hd => rfl); (case hg => rfl); (case hr => first | (go_simp; done) | (go_simp; rfl)); (case hp => exact (Reps.none _ _)); intro va w4 ho5 hb hg_ hnew_; have HO5 := Aside0.mk ho5; have HB5 := Aside0.mk hb; clear hg_ hnew_ ho5 hb) | ((with_reducible refine gate_builtin (b := .append) (xs := #[.tmp 18, .tmp 19]) rfl ?_); at_builtin; refine Kd.R_append_rows (Kd.int .i64) (w0 := w.setCell ⟨x, 26, none⟩ (.int .i64 n)) (w.setCell ⟨x, 26, none⟩ (.int .i64 n)).heap.size rfl (.tmp 18) (.tmp 19) 33 3 (.int .i64 0) 8 rfl Try.underlying33 info3 rfl (by decide) (by omega) va [] keep _ _ _ (fun _ => True) (fun _ => False) rfl rfl ?aO ?aR (fun _ _ h => h) (fun _ h => h.elim) ?aF ?aB ?aS ?aL ?_; (case aR => exact Kd.C_below HC1.out HB5.out); (case aB => exact HB5.out); (case aF => exact (fun _ _ => trivial)); (case aO => exact HO5.out); (case aS => exact HB5.out.size); (case aL => simp; omega); intro vb w6 ho hb hg hat; rw [List.nil_append] at ho; obtain ⟨A2, c2, e2⟩ := Kd.R_slice ho; subst e2; have HO6 := Aside0.mk ho; have HB6 := Aside0.mk hb; clear ho hb hg hat; have hc27b := (HB6.out.cell (p := ⟨x, 27, none⟩) HX1.out).trans hc27'; have hf27b := (HB6.out.frozen (p := ⟨x, 27, none⟩) HX1.out).trans hf27'))
      go_ret
      rw [HE2.out]
      have hw := ((HR1.out.trans (Wr.of_below HB6.out)).set 27 (.slice A2 keep.length c2))
      have ha := (HA1.out.same (W' := w6) (HB6.out.block x HX1.out)).set27 (.slice A2 keep.length c2)
      have he : ({ ({ toXV s kv with fuse := n } : XV) with kv := .slice A2 keep.length c2 } : XV) = toXV { s with set := true, left := n, keep := keep } (.slice A2 keep.length c2) := by
        unfold toXV fuseP; rfl
      rw [he] at ha
      refine ⟨rfl, ⟨fun b hb => Nat.lt_of_lt_of_le (H.out.lt b hb) hw.size, H.out.gg, _, ha, ?_⟩, hw⟩
      have h1 := Rw.of_R HO6.out (G := G) (fun b hb => Nat.lt_of_lt_of_le (H.out.lt b hb) HR1.out.size)
      exact h1.wr ((Wr.refl x w6).set 27 (.slice A2 keep.length c2)) H.out.gg
end Go.Proofs.Ytehjbhnlbjbhfaa.Rd
