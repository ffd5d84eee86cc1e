/- Contract of the law's alike. -/
import Derived.Test.YtnnkohddhiecoaaDkN
namespace Go.Proofs.Ytnnkohddhiecoaa.Dk
open Go Go.RowKit Go.Proofs.YtnnkohddhiecoaaW.PrintWords Go.Proofs.YtnnkohddhiecoaaW.PrintLast Go.Proofs.YtnnkohddhiecoaaW.PrintMore
open Go.Proofs.Ytnnkohddhiecoaa.PDiskBegins
attribute [local go_sem] max2_int min2_int max_two min_two
set_option linter.unusedVariables false
set_option linter.unusedSimpArgs false
theorem Equal_same (A : Option Addr) (c : Nat) (B : Option Addr) (d : Nat) (l : List Int) (w : World) (h1 : Kd.C (Kd.int .u8) w A l.length l) (hc : l.length ≤ c) (h2 : Kd.C (Kd.int .u8) w B l.length l) (hd : l.length ≤ d) :
    Calls Try.prog 23 #[.slice A l.length c, .slice B l.length d] w fun e w' => e = .returned (.bool true) ∧ Drawn0 w w' := bytes_Equal.calls A c l B d l true w h1 hc h2 hd (by unfold bytes_Equal.f; simp)
theorem mem_getD {α : Type} {l : List α} {d : α} {j : Nat} (h : j < l.length) : l.toArray[j]? = some (l.getD j d) := by
  rw [List.getElem?_toArray, List.getElem?_eq_getElem h, List.getD_eq_getElem?_getD, List.getElem?_eq_getElem h]; rfl
set_option maxHeartbeats 8000000 in
set_option maxRecDepth 100000 in
theorem alike_same (G : Nat → Prop) (VS WS : List Value) (f : Nat → List Int) (w : World) (hv : VS.length = 8) (hw : WS.length = 8) (h1 : FRows G 8 w VS f) (h2 : FRows G 8 w WS f) :
    Calls Try.prog 31 #[.agg VS.toArray, .agg WS.toArray] w fun e w' => e = .returned (.bool true) ∧ Below w.heap.size w w' := by
  have HV := Aside0.mk hv
  have HWS := Aside0.mk hw
  have HF := Aside0.mk h1
  have HG := Aside0.mk h2
  have HBL := Aside0.mk (below_alloc (below_alloc (Below.refl w.heap.size w) (.cells VS.toArray 47)) (.cells WS.toArray 47))
  have hsz : (w.alloc (.cells VS.toArray 47)).heap.size = w.heap.size + 1 := by simp
  have HX := Aside0.mk (blk_alloc (blk_new w (.cells VS.toArray 47)) (.cells WS.toArray 47))
  have HY := Aside0.mk (show ((w.alloc (.cells VS.toArray 47)).alloc (.cells WS.toArray 47)).heap[w.heap.size + 1]? = _ from hsz ▸ blk_new (w.alloc (.cells VS.toArray 47)) (.cells WS.toArray 47))
  clear hv hw h1 h2 hsz
  go_enter Try.func31, Try.ntmps31
  go_wp2_with (fail)
  go_loopw [6] (fun v6 wr => ∃ i : Nat, i ≤ 8 ∧ v6 = .int .i64 (i : Int) ∧ Aside0 (Below w.heap.size w wr) ∧ Aside0 (wr.heap[w.heap.size]? = some (.cells VS.toArray 47 (0, 0))) ∧ Aside0 (wr.heap[w.heap.size + 1]? = some (.cells WS.toArray 47 (0, 0)))) (fun v6 _ => (8 - intOf v6).toNat)
  case atStart => exact ⟨0, by omega, rfl, HBL, HX, HY⟩
  case round =>
    obtain ⟨i, hi, rfl, HB, HX, HY⟩ := hrel
    clear HBL
    by_cases hlt : i < 8
    · have hx := (blk_cell HX.out i).trans (mem_getD (d := nilV) (by rw [HV.out]; exact hlt))
      have hy := (blk_cell HY.out i).trans (mem_getD (d := nilV) (by rw [HWS.out]; exact hlt))
      obtain ⟨A, c, e1, l1, g1⟩ := (HF.out i hlt).slice
      obtain ⟨B, d, e2, l2, g2⟩ := (HG.out i hlt).slice
      rw [e1] at hx
      rw [e2] at hy
      have HC0 := Aside0.mk (Kd.C_below g1 HB.out)
      have HC1 := Aside0.mk (Kd.C_below g2 HB.out)
      have HEQ := Aside0.mk (fun W h1 h2 => Equal_same A c B d (f i) W h1 l1 h2 l2)
      clear e1 e2 g1 g2 l1 l2
      generalize (f i).length = n at *
      go_wp2_with (fail)
      refine start_ (n := 8) (S := fun w' => w'.cell? ⟨w.heap.size, i, none⟩ = some (.slice A n c) ∧ w'.cell? ⟨w.heap.size + 1, i, none⟩ = some (.slice B n d)) (ds := []) #[false, false, false, false, false, false, false, false] (by kernel_rfl) rfl rfl ⟨hx, hy⟩ (fun hHeld => ?_)
      refine pure_ (i := 0) (N := some 9) (v := ?_) (a' := ?_) #[true, false, false, false, false, false, false, false] rfl rfl (by kernel_rfl) (fun _ _ _ h => h) (Or.inl ⟨by rfl, ?_⟩) ?_ ?_
      rotate_left
      · intro w'
        go_simp
        with_reducible rfl
      rotate_left
      · simp only [Act.put, List.setIfInBounds_toArray, List.set_cons_zero, List.set_cons_succ, i64_w, i32_w]
        rfl
      refine pure_ (i := 1) (N := some 10) (v := ?_) (a' := ?_) #[true, true, false, false, false, false, false, false] rfl rfl (by kernel_rfl) (fun _ _ _ h => h) (Or.inl ⟨by rfl, ?_⟩) ?_ ?_
      rotate_left
      · intro w'
        go_simp
        with_reducible rfl
      rotate_left
      · simp only [Act.put, List.setIfInBounds_toArray, List.set_cons_zero, List.set_cons_succ, i64_w, i32_w]
        rfl
      refine pure_ (i := 3) (N := some 12) (v := ?_) (a' := ?_) #[true, true, false, true, false, false, false, false] rfl rfl (by kernel_rfl) (fun _ _ _ h => h) (Or.inl ⟨by rfl, ?_⟩) ?_ ?_
      rotate_left
      · intro w'
        go_simp
        with_reducible rfl
      rotate_left
      · simp only [Act.put, List.setIfInBounds_toArray, List.set_cons_zero, List.set_cons_succ, i64_w, i32_w]
        rfl
      refine pure_ (i := 4) (N := some 13) (v := ?_) (a' := ?_) #[true, true, false, true, true, false, false, false] rfl rfl (by kernel_rfl) (fun _ _ _ h => h) (Or.inl ⟨by rfl, ?_⟩) ?_ ?_
      rotate_left
      · intro w'
        go_simp
        with_reducible rfl
      rotate_left
      · simp only [Act.put, List.setIfInBounds_toArray, List.set_cons_zero, List.set_cons_succ, i64_w, i32_w]
        rfl
      refine take_ (i := 2) (N := some 11) (v := ?_) (a' := ?_) #[true, true, true, true, true, false, false, false] rfl rfl (by kernel_rfl) (fun _ _ _ h => h) (Or.inl ⟨by rfl, ?_⟩) hHeld ?_ ?_
      rotate_left
      · rintro w' ⟨s0, s1⟩
        go_simp
        with_reducible rfl
      rotate_left
      · simp only [Act.put, List.setIfInBounds_toArray, List.set_cons_zero, List.set_cons_succ, i64_w, i32_w]
        rfl
      refine take_ (i := 5) (N := some 14) (v := ?_) (a' := ?_) #[true, true, true, true, true, true, false, false] rfl rfl (by kernel_rfl) (fun _ _ _ h => h) (Or.inl ⟨by rfl, ?_⟩) hHeld ?_ ?_
      rotate_left
      · rintro w' ⟨s0, s1⟩
        go_simp
        with_reducible rfl
      rotate_left
      · simp only [Act.put, List.setIfInBounds_toArray, List.set_cons_zero, List.set_cons_succ, i64_w, i32_w]
        rfl
      refine one_ (i := 6) (N := some 15) #[true, true, true, true, true, true, true, false] rfl rfl (by kernel_rfl) (by decide) (fun K hK => ?_)
      refine goes_ Try.func23 (by kernel_rfl) rfl #[.slice A n c, .slice B n d] (by rfl) rfl rfl (by first | rfl | (simp; done) | (simp only [List.map_toArray, List.map_cons, List.map_nil]; rfl)) ?_
      with_reducible refine (HEQ.out _ (by repeat (first | exact HC0.out | (with_reducible refine Kd.C_drew ?_) | (with_reducible refine Kd.C_drewN ?_ _))) (by repeat (first | exact HC1.out | (with_reducible refine Kd.C_drew ?_) | (with_reducible refine Kd.C_drewN ?_ _)))).mono ?_
      rintro e w3 ⟨rfl, ⟨nd, rfl⟩⟩
      refine ⟨_, rfl, ?_⟩
      refine hK.out _ _ ⟨hHeld.1, hHeld.2⟩ (fun hHeld => ?_)
      clear hK K
      refine norm_ (a' := ?_) ?_ ?_
      rotate_left
      · show Act.put _ (some 15) _ = _
        simp only [Act.put, List.setIfInBounds_toArray, List.set_cons_zero, List.set_cons_succ, i64_w, i32_w]
        rfl
      refine pure_ (i := 7) (N := some 16) (v := ?_) (a' := ?_) #[true, true, true, true, true, true, true, true] rfl rfl (by kernel_rfl) (fun _ _ _ h => h) (Or.inl ⟨by rfl, ?_⟩) ?_ ?_
      rotate_left
      · intro w'
        go_simp
        with_reducible rfl
      rotate_left
      · simp only [Act.put, List.setIfInBounds_toArray, List.set_cons_zero, List.set_cons_succ, i64_w, i32_w]
        rfl
      refine done_ (by kernel_rfl) ?_

      go_wp2_with (fail)
      go_roundw
      case rel => exact ⟨i + 1, by omega, by go_num, ⟨by repeat (first | exact HB.out | (with_reducible refine below_drew1 ?_) | (with_reducible refine pw_below_drewN ?_ _))⟩, ⟨by repeat (first | exact HX.out | (with_reducible refine blk_drew ?_) | (with_reducible refine blk_drewN ?_ _))⟩, ⟨by repeat (first | exact HY.out | (with_reducible refine blk_drew ?_) | (with_reducible refine blk_drewN ?_ _))⟩⟩
      case measure => simp [intOf]; omega
    · obtain rfl : i = 8 := by omega
      rw [show ((8 : Nat) : Int) = 8 from rfl]
      go_wp2_with (fail)
      go_ret
      exact ⟨rfl, HB.out⟩
end Go.Proofs.Ytnnkohddhiecoaa.Dk
