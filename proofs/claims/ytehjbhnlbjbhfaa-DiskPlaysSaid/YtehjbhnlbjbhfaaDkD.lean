/- Contracts of the disk's after and fall. -/
import Derived.Test.YtehjbhnlbjbhfaaDkC
import Derived.IntWalk
namespace Go.Proofs.Ytehjbhnlbjbhfaa.Dk
open Go Go.RowKit Go.Proofs.YtehjbhnlbjbhfaaW.PrintWords Go.Proofs.YtehjbhnlbjbhfaaW.PrintLast Go.Proofs.YtehjbhnlbjbhfaaW.PrintMore
open Go.Proofs.Ytehjbhnlbjbhfaa.PDiskBegins
attribute [local go_sem] max2_int min2_int max_two min_two
set_option linter.unusedVariables false
def afterB (f : Fl) (k : Int) : List Int := if 0 ≤ k then (if f.cl = true then f.seen.take k.toNat else f.seen.take (f.lasts.length + k.toNat)) else f.lasts
theorem after_eq (f : Fl) (k : Int) : afterP f k = ⟨afterB f k, afterB f k, false⟩ := by
  unfold afterP afterB
  by_cases c : 0 ≤ k
  · rw [if_pos c, if_pos c]; split <;> rfl
  · rw [if_neg c, if_neg c]
set_option maxHeartbeats 8000000 in
set_option maxRecDepth 100000 in
theorem after_calls (A0 : Option Addr) (c0 : Nat) (A1 : Option Addr) (c1 : Nat) (f : Fl) (k : Int) (w : World) (hk : -9223372036854775808 ≤ k ∧ k ≤ 9223372036854775807)
    (h0 : (Kd.int .u8).C w A0 f.seen.length f.seen) (hc0 : f.seen.length ≤ c0) (h1 : (Kd.int .u8).C w A1 f.lasts.length f.lasts) (hc1 : f.lasts.length ≤ c1)
    (hp : f.cl = false → f.lasts.length ≤ f.seen.length) (hs : f.seen.length ≤ 4194304) (hl : f.lasts.length ≤ 4194304) :
    Calls Try.prog 88 #[.agg #[.slice A0 f.seen.length c0, .slice A1 f.lasts.length c1, .bool f.cl], .int .i64 k] w fun e w' => ∃ v, e = .returned (.agg #[v, v, .bool false]) ∧ Kd.R (Kd.int .u8) 5 w' w.heap.size (fun _ => True) v (afterB f k) ∧ Below w.heap.size w w' := by
  have H0 := Aside0.mk h0
  have HC0 := Aside0.mk hc0
  have H1 := Aside0.mk h1
  have HC1 := Aside0.mk hc1
  have HBX := fun (W : World) (h : W = w.alloc (Obj.cells #[Value.slice A0 f.seen.length c0, Value.slice A1 f.lasts.length c1, Value.bool f.cl] 61)) => h
  obtain ⟨i0, hi0, _, hz1, _⟩ := info_parts info5
  have HINF := Aside0.mk hi0
  clear hi0 hz1 HBX
  obtain ⟨seen, lasts, cl⟩ := f
  simp only at *
  by_cases ck : 0 ≤ k
  · have d0 : decide (0 ≤ k) = true := decide_eq_true ck
    obtain ⟨kk, rfl⟩ : ∃ kk : Nat, k = (kk : Int) := Int.eq_ofNat_of_zero_le ck
    have key : ∀ p : Nat, p ≤ seen.length → afterB ⟨seen, lasts, cl⟩ (kk : Int) = seen.take p → ∃ X, Aside0 (afterB ⟨seen, lasts, cl⟩ (kk : Int) = X) ∧ Aside0 ((Kd.int .u8).C w A0 X.length X) ∧ Aside0 (X.length ≤ c0) ∧ Aside0 (X.length < 140737488355328) ∧ X.length = p ∧ ∀ W : World, (Instr.slice 32 (.slice A0 seen.length c0) none (some (.int .i64 (p : Int))) none).run Try.prog W = .ok (.slice A0 X.length c0) W := by
      intro p hple he
      have hx : (seen.take p).length = p := by rw [List.length_take]; exact Nat.min_eq_left hple
      refine ⟨seen.take p, ⟨he⟩, ⟨Kd.C_take h0 hple⟩, ⟨by omega⟩, ⟨by omega⟩, hx, fun W => ?_⟩
      rw [hx]
      have HCUT := cut_to (P := Try.prog) 32 5 .i64 Try.underlying32 HINF.out A0 seen.length c0 (p : Int) (by omega) (by omega) hc0
      rw [Int.toNat_natCast] at HCUT
      exact HCUT W
    cases cl with
    | true =>
      have hb : afterB ⟨seen, lasts, true⟩ (kk : Int) = seen.take kk := by unfold afterB; rw [if_pos ck]; rfl
      by_cases hlt : (seen.length : Int) < (kk : Int)
      · obtain ⟨X, HB, HCX, HXC, HLL, hxl, HCUT⟩ := key seen.length (Nat.le_refl _) (by rw [hb, List.take_of_length_le (by omega), List.take_of_length_le (Nat.le_refl _)])
        rw [HB.out]
        have hlt2 : seen.length < kk := by omega
        have hd1 : decide ((seen.length : Int) < (kk : Int)) = true := decide_eq_true hlt
        clear hxl hp ck hk hl hb key HB h0 h1 hc0 hc1
        go_enter Try.func88, Try.ntmps88
        go_wp2_with (fail)
        refine (Clone_b A0 c0 X _ (Kd.C_alloc (Kd.C_alloc HCX.out _) _) HXC.out HLL.out).mono ?_
        rintro e w1 ⟨v, rfl, hR, hB⟩
        obtain ⟨A2, c2, rfl⟩ := Kd.R_slice hR
        have hz : ((w.alloc (Obj.cells #[Value.slice A0 seen.length c0, Value.slice A1 lasts.length c1, Value.bool true] 61)).alloc (Obj.cells #[Value.slice none 0 0, Value.slice none 0 0, Value.bool false] 61)).heap.size = w.heap.size + 2 := by simp
        have hb0 := blk_below (blk_new (w.alloc (Obj.cells #[Value.slice A0 seen.length c0, Value.slice A1 lasts.length c1, Value.bool true] 61)) (.cells #[Value.slice none 0 0, Value.slice none 0 0, Value.bool false] 61)) hB
        rw [show (w.alloc (Obj.cells #[Value.slice A0 seen.length c0, Value.slice A1 lasts.length c1, Value.bool true] 61)).heap.size = w.heap.size + 1 by simp] at hb0
        have HB0 := Aside0.mk hb0
        have HW := Aside0.mk (below_step (below_alloc (below_alloc (Below.refl w.heap.size w) _) _) hB)
        rw [hz] at hR
        have HR := Aside0.mk hR
        have hc_0 := (blk_cell hb0 0).trans rfl
        have hc_1 := (blk_cell hb0 1).trans rfl
        have hc_2 := (blk_cell hb0 2).trans rfl
        have hf_0 := blk_frozen hb0 0
        have hf_1 := blk_frozen hb0 1
        have hf_2 := blk_frozen hb0 2
        clear hz hR hB hb0
        go_wp2
        refine bodyPost_ret (results_cell_row rfl _ _ (w.heap.size + 1) 61 #[.slice A2 X.length c2, .slice A2 X.length c2, .bool false] (0, 0) _ rfl (by refine blk_put (cs := #[.slice A2 X.length c2, .slice A2 X.length c2, .bool false]) ?_ 2 _ rfl; refine blk_put (cs := #[.slice A2 X.length c2, .slice none 0 0, .bool false]) ?_ 1 _ rfl; refine blk_put (cs := #[.slice none 0 0, .slice none 0 0, .bool false]) ?_ 0 _ rfl; exact HB0.out) Try.underlying61 rfl (by kernel_rfl)) rfl ?_
        have HN : Aside0 (∀ b, w.heap.size + 2 ≤ b → b ≠ w.heap.size + 1) := ⟨fun b hb => by omega⟩
        have HR3 := Kd.R_mono (Kd.R_bound HR.out) (ok' := fun b => b ≠ w.heap.size + 1) (fun b hb => HN.out b hb.2.1)
        exact ⟨_, rfl, Kd.R_mono (Kd.R_lower (Kd.R_far (p := ⟨w.heap.size + 1, 2, none⟩) (Kd.R_far (p := ⟨w.heap.size + 1, 1, none⟩) (Kd.R_far (p := ⟨w.heap.size + 1, 0, none⟩) HR3 (fun b hb => hb) _) (fun b hb => hb) _) (fun b hb => hb) _) (Nat.le_add_right _ _)) (fun _ _ => trivial), below_set (below_set (below_set HW.out (Nat.le_add_right _ _)) (Nat.le_add_right _ _)) (Nat.le_add_right _ _)⟩
      · obtain ⟨X, HB, HCX, HXC, HLL, hxl, HCUT⟩ := key kk (by omega) hb
        rw [HB.out]
        have hlt2 : ¬ seen.length < kk := by omega
        have hd1 : decide ((seen.length : Int) < (kk : Int)) = false := decide_eq_false hlt
        clear hxl hp ck hk hl hb key HB h0 h1 hc0 hc1
        go_enter Try.func88, Try.ntmps88
        go_wp2_with (fail)
        refine (Clone_b A0 c0 X _ (Kd.C_alloc (Kd.C_alloc HCX.out _) _) HXC.out HLL.out).mono ?_
        rintro e w1 ⟨v, rfl, hR, hB⟩
        obtain ⟨A2, c2, rfl⟩ := Kd.R_slice hR
        have hz : ((w.alloc (Obj.cells #[Value.slice A0 seen.length c0, Value.slice A1 lasts.length c1, Value.bool true] 61)).alloc (Obj.cells #[Value.slice none 0 0, Value.slice none 0 0, Value.bool false] 61)).heap.size = w.heap.size + 2 := by simp
        have hb0 := blk_below (blk_new (w.alloc (Obj.cells #[Value.slice A0 seen.length c0, Value.slice A1 lasts.length c1, Value.bool true] 61)) (.cells #[Value.slice none 0 0, Value.slice none 0 0, Value.bool false] 61)) hB
        rw [show (w.alloc (Obj.cells #[Value.slice A0 seen.length c0, Value.slice A1 lasts.length c1, Value.bool true] 61)).heap.size = w.heap.size + 1 by simp] at hb0
        have HB0 := Aside0.mk hb0
        have HW := Aside0.mk (below_step (below_alloc (below_alloc (Below.refl w.heap.size w) _) _) hB)
        rw [hz] at hR
        have HR := Aside0.mk hR
        have hc_0 := (blk_cell hb0 0).trans rfl
        have hc_1 := (blk_cell hb0 1).trans rfl
        have hc_2 := (blk_cell hb0 2).trans rfl
        have hf_0 := blk_frozen hb0 0
        have hf_1 := blk_frozen hb0 1
        have hf_2 := blk_frozen hb0 2
        clear hz hR hB hb0
        go_wp2
        refine bodyPost_ret (results_cell_row rfl _ _ (w.heap.size + 1) 61 #[.slice A2 X.length c2, .slice A2 X.length c2, .bool false] (0, 0) _ rfl (by refine blk_put (cs := #[.slice A2 X.length c2, .slice A2 X.length c2, .bool false]) ?_ 2 _ rfl; refine blk_put (cs := #[.slice A2 X.length c2, .slice none 0 0, .bool false]) ?_ 1 _ rfl; refine blk_put (cs := #[.slice none 0 0, .slice none 0 0, .bool false]) ?_ 0 _ rfl; exact HB0.out) Try.underlying61 rfl (by kernel_rfl)) rfl ?_
        have HN : Aside0 (∀ b, w.heap.size + 2 ≤ b → b ≠ w.heap.size + 1) := ⟨fun b hb => by omega⟩
        have HR3 := Kd.R_mono (Kd.R_bound HR.out) (ok' := fun b => b ≠ w.heap.size + 1) (fun b hb => HN.out b hb.2.1)
        exact ⟨_, rfl, Kd.R_mono (Kd.R_lower (Kd.R_far (p := ⟨w.heap.size + 1, 2, none⟩) (Kd.R_far (p := ⟨w.heap.size + 1, 1, none⟩) (Kd.R_far (p := ⟨w.heap.size + 1, 0, none⟩) HR3 (fun b hb => hb) _) (fun b hb => hb) _) (fun b hb => hb) _) (Nat.le_add_right _ _)) (fun _ _ => trivial), below_set (below_set (below_set HW.out (Nat.le_add_right _ _)) (Nat.le_add_right _ _)) (Nat.le_add_right _ _)⟩
    | false =>
      have hb : afterB ⟨seen, lasts, false⟩ (kk : Int) = seen.take (lasts.length + kk) := by unfold afterB; rw [if_pos ck]; rfl
      have hpl := hp rfl
      obtain ⟨rr, hrr⟩ : ∃ rr : Nat, seen.length - lasts.length = rr := ⟨_, rfl⟩
      have hw1 : wrap64 ((seen.length : Int) - (lasts.length : Int)) = (rr : Int) := by unfold wrap64; omega
      by_cases hlt : (rr : Int) < (kk : Int)
      · obtain ⟨X, HB, HCX, HXC, HLL, hxl, HCUT⟩ := key seen.length (Nat.le_refl _) (by rw [hb, List.take_of_length_le (by omega), List.take_of_length_le (Nat.le_refl _)])
        have hsum : wrap64 ((lasts.length : Int) + (rr : Int)) = (seen.length : Int) := by clear hw1; unfold wrap64; omega
        rw [HB.out]
        have hlt2 : rr < kk := by omega
        have hd1 : decide ((rr : Int) < (kk : Int)) = true := decide_eq_true hlt
        clear hxl hp ck hk hs hl hb key HB h0 h1 hc0 hc1 hpl hrr
        go_enter Try.func88, Try.ntmps88
        go_wp2_with (fail)
        refine (Clone_b A0 c0 X _ (Kd.C_alloc (Kd.C_alloc HCX.out _) _) HXC.out HLL.out).mono ?_
        rintro e w1 ⟨v, rfl, hR, hB⟩
        obtain ⟨A2, c2, rfl⟩ := Kd.R_slice hR
        have hz : ((w.alloc (Obj.cells #[Value.slice A0 seen.length c0, Value.slice A1 lasts.length c1, Value.bool false] 61)).alloc (Obj.cells #[Value.slice none 0 0, Value.slice none 0 0, Value.bool false] 61)).heap.size = w.heap.size + 2 := by simp
        have hb0 := blk_below (blk_new (w.alloc (Obj.cells #[Value.slice A0 seen.length c0, Value.slice A1 lasts.length c1, Value.bool false] 61)) (.cells #[Value.slice none 0 0, Value.slice none 0 0, Value.bool false] 61)) hB
        rw [show (w.alloc (Obj.cells #[Value.slice A0 seen.length c0, Value.slice A1 lasts.length c1, Value.bool false] 61)).heap.size = w.heap.size + 1 by simp] at hb0
        have HB0 := Aside0.mk hb0
        have HW := Aside0.mk (below_step (below_alloc (below_alloc (Below.refl w.heap.size w) _) _) hB)
        rw [hz] at hR
        have HR := Aside0.mk hR
        have hc_0 := (blk_cell hb0 0).trans rfl
        have hc_1 := (blk_cell hb0 1).trans rfl
        have hc_2 := (blk_cell hb0 2).trans rfl
        have hf_0 := blk_frozen hb0 0
        have hf_1 := blk_frozen hb0 1
        have hf_2 := blk_frozen hb0 2
        clear hz hR hB hb0
        go_wp2
        refine bodyPost_ret (results_cell_row rfl _ _ (w.heap.size + 1) 61 #[.slice A2 X.length c2, .slice A2 X.length c2, .bool false] (0, 0) _ rfl (by refine blk_put (cs := #[.slice A2 X.length c2, .slice A2 X.length c2, .bool false]) ?_ 2 _ rfl; refine blk_put (cs := #[.slice A2 X.length c2, .slice none 0 0, .bool false]) ?_ 1 _ rfl; refine blk_put (cs := #[.slice none 0 0, .slice none 0 0, .bool false]) ?_ 0 _ rfl; exact HB0.out) Try.underlying61 rfl (by kernel_rfl)) rfl ?_
        have HN : Aside0 (∀ b, w.heap.size + 2 ≤ b → b ≠ w.heap.size + 1) := ⟨fun b hb => by omega⟩
        have HR3 := Kd.R_mono (Kd.R_bound HR.out) (ok' := fun b => b ≠ w.heap.size + 1) (fun b hb => HN.out b hb.2.1)
        exact ⟨_, rfl, Kd.R_mono (Kd.R_lower (Kd.R_far (p := ⟨w.heap.size + 1, 2, none⟩) (Kd.R_far (p := ⟨w.heap.size + 1, 1, none⟩) (Kd.R_far (p := ⟨w.heap.size + 1, 0, none⟩) HR3 (fun b hb => hb) _) (fun b hb => hb) _) (fun b hb => hb) _) (Nat.le_add_right _ _)) (fun _ _ => trivial), below_set (below_set (below_set HW.out (Nat.le_add_right _ _)) (Nat.le_add_right _ _)) (Nat.le_add_right _ _)⟩
      · obtain ⟨z, hz⟩ : ∃ z : Nat, lasts.length + kk = z := ⟨_, rfl⟩
        obtain ⟨X, HB, HCX, HXC, HLL, hxl, HCUT⟩ := key z (by omega) (by rw [hb, hz])
        have hsum : wrap64 ((lasts.length : Int) + (kk : Int)) = (z : Int) := by clear hw1; unfold wrap64; omega
        rw [HB.out]
        have hlt2 : ¬ rr < kk := by omega
        have hd1 : decide ((rr : Int) < (kk : Int)) = false := decide_eq_false hlt
        clear hxl hp ck hk hs hl hb key HB h0 h1 hc0 hc1 hpl hrr hz
        go_enter Try.func88, Try.ntmps88
        go_wp2_with (fail)
        refine (Clone_b A0 c0 X _ (Kd.C_alloc (Kd.C_alloc HCX.out _) _) HXC.out HLL.out).mono ?_
        rintro e w1 ⟨v, rfl, hR, hB⟩
        obtain ⟨A2, c2, rfl⟩ := Kd.R_slice hR
        have hz : ((w.alloc (Obj.cells #[Value.slice A0 seen.length c0, Value.slice A1 lasts.length c1, Value.bool false] 61)).alloc (Obj.cells #[Value.slice none 0 0, Value.slice none 0 0, Value.bool false] 61)).heap.size = w.heap.size + 2 := by simp
        have hb0 := blk_below (blk_new (w.alloc (Obj.cells #[Value.slice A0 seen.length c0, Value.slice A1 lasts.length c1, Value.bool false] 61)) (.cells #[Value.slice none 0 0, Value.slice none 0 0, Value.bool false] 61)) hB
        rw [show (w.alloc (Obj.cells #[Value.slice A0 seen.length c0, Value.slice A1 lasts.length c1, Value.bool false] 61)).heap.size = w.heap.size + 1 by simp] at hb0
        have HB0 := Aside0.mk hb0
        have HW := Aside0.mk (below_step (below_alloc (below_alloc (Below.refl w.heap.size w) _) _) hB)
        rw [hz] at hR
        have HR := Aside0.mk hR
        have hc_0 := (blk_cell hb0 0).trans rfl
        have hc_1 := (blk_cell hb0 1).trans rfl
        have hc_2 := (blk_cell hb0 2).trans rfl
        have hf_0 := blk_frozen hb0 0
        have hf_1 := blk_frozen hb0 1
        have hf_2 := blk_frozen hb0 2
        clear hz hR hB hb0
        go_wp2
        refine bodyPost_ret (results_cell_row rfl _ _ (w.heap.size + 1) 61 #[.slice A2 X.length c2, .slice A2 X.length c2, .bool false] (0, 0) _ rfl (by refine blk_put (cs := #[.slice A2 X.length c2, .slice A2 X.length c2, .bool false]) ?_ 2 _ rfl; refine blk_put (cs := #[.slice A2 X.length c2, .slice none 0 0, .bool false]) ?_ 1 _ rfl; refine blk_put (cs := #[.slice none 0 0, .slice none 0 0, .bool false]) ?_ 0 _ rfl; exact HB0.out) Try.underlying61 rfl (by kernel_rfl)) rfl ?_
        have HN : Aside0 (∀ b, w.heap.size + 2 ≤ b → b ≠ w.heap.size + 1) := ⟨fun b hb => by omega⟩
        have HR3 := Kd.R_mono (Kd.R_bound HR.out) (ok' := fun b => b ≠ w.heap.size + 1) (fun b hb => HN.out b hb.2.1)
        exact ⟨_, rfl, Kd.R_mono (Kd.R_lower (Kd.R_far (p := ⟨w.heap.size + 1, 2, none⟩) (Kd.R_far (p := ⟨w.heap.size + 1, 1, none⟩) (Kd.R_far (p := ⟨w.heap.size + 1, 0, none⟩) HR3 (fun b hb => hb) _) (fun b hb => hb) _) (fun b hb => hb) _) (Nat.le_add_right _ _)) (fun _ _ => trivial), below_set (below_set (below_set HW.out (Nat.le_add_right _ _)) (Nat.le_add_right _ _)) (Nat.le_add_right _ _)⟩
  · have d0 : decide (0 ≤ k) = false := decide_eq_false ck
    have HB := Aside0.mk (show afterB ⟨seen, lasts, cl⟩ k = lasts by unfold afterB; rw [if_neg ck])
    rw [HB.out]
    clear hp ck
    have HLL := Aside0.mk (show lasts.length < 140737488355328 by omega)
    go_enter Try.func88, Try.ntmps88
    go_wp2_with (fail)
    refine (Clone_b A1 c1 lasts _ (Kd.C_alloc (Kd.C_alloc H1.out _) _) HC1.out HLL.out).mono ?_
    rintro e w1 ⟨v, rfl, hR, hB⟩
    obtain ⟨A2, c2, rfl⟩ := Kd.R_slice hR
    have hz : ((w.alloc (Obj.cells #[Value.slice A0 seen.length c0, Value.slice A1 lasts.length c1, Value.bool cl] 61)).alloc (Obj.cells #[Value.slice none 0 0, Value.slice none 0 0, Value.bool false] 61)).heap.size = w.heap.size + 2 := by simp
    have hb0 := blk_below (blk_new (w.alloc (Obj.cells #[Value.slice A0 seen.length c0, Value.slice A1 lasts.length c1, Value.bool cl] 61)) (.cells #[Value.slice none 0 0, Value.slice none 0 0, Value.bool false] 61)) hB
    rw [show (w.alloc (Obj.cells #[Value.slice A0 seen.length c0, Value.slice A1 lasts.length c1, Value.bool cl] 61)).heap.size = w.heap.size + 1 by simp] at hb0
    have HB0 := Aside0.mk hb0
    have HW := Aside0.mk (below_step (below_alloc (below_alloc (Below.refl w.heap.size w) _) _) hB)
    rw [hz] at hR
    have HR := Aside0.mk hR
    have hc_0 := (blk_cell hb0 0).trans rfl
    have hc_1 := (blk_cell hb0 1).trans rfl
    have hc_2 := (blk_cell hb0 2).trans rfl
    have hf_0 := blk_frozen hb0 0
    have hf_1 := blk_frozen hb0 1
    have hf_2 := blk_frozen hb0 2
    clear hz hR hB hb0
    go_wp2
    refine bodyPost_ret (results_cell_row rfl _ _ (w.heap.size + 1) 61 #[.slice A2 lasts.length c2, .slice A2 lasts.length c2, .bool false] (0, 0) _ rfl (by refine blk_put (cs := #[.slice A2 lasts.length c2, .slice A2 lasts.length c2, .bool false]) ?_ 2 _ rfl; refine blk_put (cs := #[.slice A2 lasts.length c2, .slice none 0 0, .bool false]) ?_ 1 _ rfl; refine blk_put (cs := #[.slice none 0 0, .slice none 0 0, .bool false]) ?_ 0 _ rfl; exact HB0.out) Try.underlying61 rfl (by kernel_rfl)) rfl ?_
    have HN : Aside0 (∀ b, w.heap.size + 2 ≤ b → b ≠ w.heap.size + 1) := ⟨fun b hb => by omega⟩
    have HR3 := Kd.R_mono (Kd.R_bound HR.out) (ok' := fun b => b ≠ w.heap.size + 1) (fun b hb => HN.out b hb.2.1)
    exact ⟨_, rfl, Kd.R_mono (Kd.R_lower (Kd.R_far (p := ⟨w.heap.size + 1, 2, none⟩) (Kd.R_far (p := ⟨w.heap.size + 1, 1, none⟩) (Kd.R_far (p := ⟨w.heap.size + 1, 0, none⟩) HR3 (fun b hb => hb) _) (fun b hb => hb) _) (fun b hb => hb) _) (Nat.le_add_right _ _)) (fun _ _ => trivial), below_set (below_set (below_set HW.out (Nat.le_add_right _ _)) (Nat.le_add_right _ _)) (Nat.le_add_right _ _)⟩
end Go.Proofs.Ytehjbhnlbjbhfaa.Dk
