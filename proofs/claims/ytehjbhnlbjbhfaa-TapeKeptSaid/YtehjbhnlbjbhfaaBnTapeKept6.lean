/- Texts that the row of LawTapeKept rests on, part 6 of 12: contracts of the functions, their walks, plain laws. -/
import Derived.Test.YtehjbhnlbjbhfaaBnTapeKept5
import Derived.IntWalk
-- DkD
namespace Go.Proofs.Ytehjbhnlbjbhfaa.Dk
open Go Go.RowKit Go.Proofs.YtehjbhnlbjbhfaaW.PrintWords Go.Proofs.YtehjbhnlbjbhfaaW.PrintLast Go.Proofs.YtehjbhnlbjbhfaaW.PrintMore
open Go.Proofs.Ytehjbhnlbjbhfaa.PDiskBegins
attribute [local go_sem] max2_int min2_int max_two min_two
set_option linter.unusedVariables false
def afterB (f : Fl) (k : Int) : List Int := if 0 ≤ k then (if f.cl = true then f.seen.take k.toNat else f.seen.take (f.lasts.length + k.toNat)) else f.lasts
theorem after_eq (f : Fl) (k : Int) : afterP f k = ⟨afterB f k, afterB f k, false⟩ := by
  unfold afterP afterB
  by_cases c : 0 ≤ k
  · rw [if_pos c, if_pos c]; split <;> rfl
  · rw [if_neg c, if_neg c]
set_option maxHeartbeats 8000000 in
set_option maxRecDepth 100000 in
theorem after_calls (A0 : Option Addr) (c0 : Nat) (A1 : Option Addr) (c1 : Nat) (f : Fl) (k : Int) (w : World) (hk : -9223372036854775808 ≤ k ∧ k ≤ 9223372036854775807)
    (h0 : (Kd.int .u8).C w A0 f.seen.length f.seen) (hc0 : f.seen.length ≤ c0) (h1 : (Kd.int .u8).C w A1 f.lasts.length f.lasts) (hc1 : f.lasts.length ≤ c1)
    (hp : f.cl = false → f.lasts.length ≤ f.seen.length) (hs : f.seen.length ≤ 4194304) (hl : f.lasts.length ≤ 4194304) :
    Calls Try.prog 88 #[.agg #[.slice A0 f.seen.length c0, .slice A1 f.lasts.length c1, .bool f.cl], .int .i64 k] w fun e w' => ∃ v, e = .returned (.agg #[v, v, .bool false]) ∧ Kd.R (Kd.int .u8) 5 w' w.heap.size (fun _ => True) v (afterB f k) ∧ Below w.heap.size w w' := by
  have H0 := Aside0.mk h0
  have HC0 := Aside0.mk hc0
  have H1 := Aside0.mk h1
  have HC1 := Aside0.mk hc1
  have HBX := fun (W : World) (h : W = w.alloc (Obj.cells #[Value.slice A0 f.seen.length c0, Value.slice A1 f.lasts.length c1, Value.bool f.cl] 61)) => h
  obtain ⟨i0, hi0, _, hz1, _⟩ := info_parts info5
  have HINF := Aside0.mk hi0
  clear hi0 hz1 HBX
  obtain ⟨seen, lasts, cl⟩ := f
  simp only at *
  by_cases ck : 0 ≤ k
  · have d0 : decide (0 ≤ k) = true := decide_eq_true ck
    obtain ⟨kk, rfl⟩ : ∃ kk : Nat, k = (kk : Int) := Int.eq_ofNat_of_zero_le ck
    have key : ∀ p : Nat, p ≤ seen.length → afterB ⟨seen, lasts, cl⟩ (kk : Int) = seen.take p → ∃ X, Aside0 (afterB ⟨seen, lasts, cl⟩ (kk : Int) = X) ∧ Aside0 ((Kd.int .u8).C w A0 X.length X) ∧ Aside0 (X.length ≤ c0) ∧ Aside0 (X.length < 140737488355328) ∧ X.length = p ∧ ∀ W : World, (Instr.slice 32 (.slice A0 seen.length c0) none (some (.int .i64 (p : Int))) none).run Try.prog W = .ok (.slice A0 X.length c0) W := by
      intro p hple he
      have hx : (seen.take p).length = p := by rw [List.length_take]; exact Nat.min_eq_left hple
      refine ⟨seen.take p, ⟨he⟩, ⟨Kd.C_take h0 hple⟩, ⟨by omega⟩, ⟨by omega⟩, hx, fun W => ?_⟩
      rw [hx]
      have HCUT := cut_to (P := Try.prog) 32 5 .i64 Try.underlying32 HINF.out A0 seen.length c0 (p : Int) (by omega) (by omega) hc0
      rw [Int.toNat_natCast] at HCUT
      exact HCUT W
    cases cl with
    | true =>
      have hb : afterB ⟨seen, lasts, true⟩ (kk : Int) = seen.take kk := by unfold afterB; rw [if_pos ck]; rfl
      by_cases hlt : (seen.length : Int) < (kk : Int)
      · obtain ⟨X, HB, HCX, HXC, HLL, hxl, HCUT⟩ := key seen.length (Nat.le_refl _) (by rw [hb, List.take_of_length_le (by omega), List.take_of_length_le (Nat.le_refl _)])
        rw [HB.out]
        have hlt2 : seen.length < kk := by omega
        have hd1 : decide ((seen.length : Int) < (kk : Int)) = true := decide_eq_true hlt
        clear hxl hp ck hk hl hb key HB h0 h1 hc0 hc1
        go_enter Try.func88, Try.ntmps88
        go_wp2_with (fail)
        refine (Clone_b A0 c0 X _ (Kd.C_alloc (Kd.C_alloc HCX.out _) _) HXC.out HLL.out).mono ?_
        rintro e w1 ⟨v, rfl, hR, hB⟩
        obtain ⟨A2, c2, rfl⟩ := Kd.R_slice hR
        have hz : ((w.alloc (Obj.cells #[Value.slice A0 seen.length c0, Value.slice A1 lasts.length c1, Value.bool true] 61)).alloc (Obj.cells #[Value.slice none 0 0, Value.slice none 0 0, Value.bool false] 61)).heap.size = w.heap.size + 2 := by simp
        have hb0 := blk_below (blk_new (w.alloc (Obj.cells #[Value.slice A0 seen.length c0, Value.slice A1 lasts.length c1, Value.bool true] 61)) (.cells #[Value.slice none 0 0, Value.slice none 0 0, Value.bool false] 61)) hB
        rw [show (w.alloc (Obj.cells #[Value.slice A0 seen.length c0, Value.slice A1 lasts.length c1, Value.bool true] 61)).heap.size = w.heap.size + 1 by simp] at hb0
        have HB0 := Aside0.mk hb0
        have HW := Aside0.mk (below_step (below_alloc (below_alloc (Below.refl w.heap.size w) _) _) hB)
        rw [hz] at hR
        have HR := Aside0.mk hR
        have hc_0 := (blk_cell hb0 0).trans rfl
        have hc_1 := (blk_cell hb0 1).trans rfl
        have hc_2 := (blk_cell hb0 2).trans rfl
        have hf_0 := blk_frozen hb0 0
        have hf_1 := blk_frozen hb0 1
        have hf_2 := blk_frozen hb0 2
        clear hz hR hB hb0
        go_wp2
        refine bodyPost_ret (results_cell_row rfl _ _ (w.heap.size + 1) 61 #[.slice A2 X.length c2, .slice A2 X.length c2, .bool false] (0, 0) _ rfl (by refine blk_put (cs := #[.slice A2 X.length c2, .slice A2 X.length c2, .bool false]) ?_ 2 _ rfl; refine blk_put (cs := #[.slice A2 X.length c2, .slice none 0 0, .bool false]) ?_ 1 _ rfl; refine blk_put (cs := #[.slice none 0 0, .slice none 0 0, .bool false]) ?_ 0 _ rfl; exact HB0.out) Try.underlying61 rfl (by kernel_rfl)) rfl ?_
        have HN : Aside0 (∀ b, w.heap.size + 2 ≤ b → b ≠ w.heap.size + 1) := ⟨fun b hb => by omega⟩
        have HR3 := Kd.R_mono (Kd.R_bound HR.out) (ok' := fun b => b ≠ w.heap.size + 1) (fun b hb => HN.out b hb.2.1)
        exact ⟨_, rfl, Kd.R_mono (Kd.R_lower (Kd.R_far (p := ⟨w.heap.size + 1, 2, none⟩) (Kd.R_far (p := ⟨w.heap.size + 1, 1, none⟩) (Kd.R_far (p := ⟨w.heap.size + 1, 0, none⟩) HR3 (fun b hb => hb) _) (fun b hb => hb) _) (fun b hb => hb) _) (Nat.le_add_right _ _)) (fun _ _ => trivial), below_set (below_set (below_set HW.out (Nat.le_add_right _ _)) (Nat.le_add_right _ _)) (Nat.le_add_right _ _)⟩
      · obtain ⟨X, HB, HCX, HXC, HLL, hxl, HCUT⟩ := key kk (by omega) hb
        rw [HB.out]
        have hlt2 : ¬ seen.length < kk := by omega
        have hd1 : decide ((seen.length : Int) < (kk : Int)) = false := decide_eq_false hlt
        clear hxl hp ck hk hl hb key HB h0 h1 hc0 hc1
        go_enter Try.func88, Try.ntmps88
        go_wp2_with (fail)
        refine (Clone_b A0 c0 X _ (Kd.C_alloc (Kd.C_alloc HCX.out _) _) HXC.out HLL.out).mono ?_
        rintro e w1 ⟨v, rfl, hR, hB⟩
        obtain ⟨A2, c2, rfl⟩ := Kd.R_slice hR
        have hz : ((w.alloc (Obj.cells #[Value.slice A0 seen.length c0, Value.slice A1 lasts.length c1, Value.bool true] 61)).alloc (Obj.cells #[Value.slice none 0 0, Value.slice none 0 0, Value.bool false] 61)).heap.size = w.heap.size + 2 := by simp
        have hb0 := blk_below (blk_new (w.alloc (Obj.cells #[Value.slice A0 seen.length c0, Value.slice A1 lasts.length c1, Value.bool true] 61)) (.cells #[Value.slice none 0 0, Value.slice none 0 0, Value.bool false] 61)) hB
        rw [show (w.alloc (Obj.cells #[Value.slice A0 seen.length c0, Value.slice A1 lasts.length c1, Value.bool true] 61)).heap.size = w.heap.size + 1 by simp] at hb0
        have HB0 := Aside0.mk hb0
        have HW := Aside0.mk (below_step (below_alloc (below_alloc (Below.refl w.heap.size w) _) _) hB)
        rw [hz] at hR
        have HR := Aside0.mk hR
        have hc_0 := (blk_cell hb0 0).trans rfl
        have hc_1 := (blk_cell hb0 1).trans rfl
        have hc_2 := (blk_cell hb0 2).trans rfl
        have hf_0 := blk_frozen hb0 0
        have hf_1 := blk_frozen hb0 1
        have hf_2 := blk_frozen hb0 2
        clear hz hR hB hb0
        go_wp2
        refine bodyPost_ret (results_cell_row rfl _ _ (w.heap.size + 1) 61 #[.slice A2 X.length c2, .slice A2 X.length c2, .bool false] (0, 0) _ rfl (by refine blk_put (cs := #[.slice A2 X.length c2, .slice A2 X.length c2, .bool false]) ?_ 2 _ rfl; refine blk_put (cs := #[.slice A2 X.length c2, .slice none 0 0, .bool false]) ?_ 1 _ rfl; refine blk_put (cs := #[.slice none 0 0, .slice none 0 0, .bool false]) ?_ 0 _ rfl; exact HB0.out) Try.underlying61 rfl (by kernel_rfl)) rfl ?_
        have HN : Aside0 (∀ b, w.heap.size + 2 ≤ b → b ≠ w.heap.size + 1) := ⟨fun b hb => by omega⟩
        have HR3 := Kd.R_mono (Kd.R_bound HR.out) (ok' := fun b => b ≠ w.heap.size + 1) (fun b hb => HN.out b hb.2.1)
        exact ⟨_, rfl, Kd.R_mono (Kd.R_lower (Kd.R_far (p := ⟨w.heap.size + 1, 2, none⟩) (Kd.R_far (p := ⟨w.heap.size + 1, 1, none⟩) (Kd.R_far (p := ⟨w.heap.size + 1, 0, none⟩) HR3 (fun b hb => hb) _) (fun b hb => hb) _) (fun b hb => hb) _) (Nat.le_add_right _ _)) (fun _ _ => trivial), below_set (below_set (below_set HW.out (Nat.le_add_right _ _)) (Nat.le_add_right _ _)) (Nat.le_add_right _ _)⟩
    | false =>
      have hb : afterB ⟨seen, lasts, false⟩ (kk : Int) = seen.take (lasts.length + kk) := by unfold afterB; rw [if_pos ck]; rfl
      have hpl := hp rfl
      obtain ⟨rr, hrr⟩ : ∃ rr : Nat, seen.length - lasts.length = rr := ⟨_, rfl⟩
      have hw1 : wrap64 ((seen.length : Int) - (lasts.length : Int)) = (rr : Int) := by unfold wrap64; omega
      by_cases hlt : (rr : Int) < (kk : Int)
      · obtain ⟨X, HB, HCX, HXC, HLL, hxl, HCUT⟩ := key seen.length (Nat.le_refl _) (by rw [hb, List.take_of_length_le (by omega), List.take_of_length_le (Nat.le_refl _)])
        have hsum : wrap64 ((lasts.length : Int) + (rr : Int)) = (seen.length : Int) := by clear hw1; unfold wrap64; omega
        rw [HB.out]
        have hlt2 : rr < kk := by omega
        have hd1 : decide ((rr : Int) < (kk : Int)) = true := decide_eq_true hlt
        clear hxl hp ck hk hs hl hb key HB h0 h1 hc0 hc1 hpl hrr
        go_enter Try.func88, Try.ntmps88
        go_wp2_with (fail)
        refine (Clone_b A0 c0 X _ (Kd.C_alloc (Kd.C_alloc HCX.out _) _) HXC.out HLL.out).mono ?_
        rintro e w1 ⟨v, rfl, hR, hB⟩
        obtain ⟨A2, c2, rfl⟩ := Kd.R_slice hR
        have hz : ((w.alloc (Obj.cells #[Value.slice A0 seen.length c0, Value.slice A1 lasts.length c1, Value.bool false] 61)).alloc (Obj.cells #[Value.slice none 0 0, Value.slice none 0 0, Value.bool false] 61)).heap.size = w.heap.size + 2 := by simp
        have hb0 := blk_below (blk_new (w.alloc (Obj.cells #[Value.slice A0 seen.length c0, Value.slice A1 lasts.length c1, Value.bool false] 61)) (.cells #[Value.slice none 0 0, Value.slice none 0 0, Value.bool false] 61)) hB
        rw [show (w.alloc (Obj.cells #[Value.slice A0 seen.length c0, Value.slice A1 lasts.length c1, Value.bool false] 61)).heap.size = w.heap.size + 1 by simp] at hb0
        have HB0 := Aside0.mk hb0
        have HW := Aside0.mk (below_step (below_alloc (below_alloc (Below.refl w.heap.size w) _) _) hB)
        rw [hz] at hR
        have HR := Aside0.mk hR
        have hc_0 := (blk_cell hb0 0).trans rfl
        have hc_1 := (blk_cell hb0 1).trans rfl
        have hc_2 := (blk_cell hb0 2).trans rfl
        have hf_0 := blk_frozen hb0 0
        have hf_1 := blk_frozen hb0 1
        have hf_2 := blk_frozen hb0 2
        clear hz hR hB hb0
        go_wp2
        refine bodyPost_ret (results_cell_row rfl _ _ (w.heap.size + 1) 61 #[.slice A2 X.length c2, .slice A2 X.length c2, .bool false] (0, 0) _ rfl (by refine blk_put (cs := #[.slice A2 X.length c2, .slice A2 X.length c2, .bool false]) ?_ 2 _ rfl; refine blk_put (cs := #[.slice A2 X.length c2, .slice none 0 0, .bool false]) ?_ 1 _ rfl; refine blk_put (cs := #[.slice none 0 0, .slice none 0 0, .bool false]) ?_ 0 _ rfl; exact HB0.out) Try.underlying61 rfl (by kernel_rfl)) rfl ?_
        have HN : Aside0 (∀ b, w.heap.size + 2 ≤ b → b ≠ w.heap.size + 1) := ⟨fun b hb => by omega⟩
        have HR3 := Kd.R_mono (Kd.R_bound HR.out) (ok' := fun b => b ≠ w.heap.size + 1) (fun b hb => HN.out b hb.2.1)
        exact ⟨_, rfl, Kd.R_mono (Kd.R_lower (Kd.R_far (p := ⟨w.heap.size + 1, 2, none⟩) (Kd.R_far (p := ⟨w.heap.size + 1, 1, none⟩) (Kd.R_far (p := ⟨w.heap.size + 1, 0, none⟩) HR3 (fun b hb => hb) _) (fun b hb => hb) _) (fun b hb => hb) _) (Nat.le_add_right _ _)) (fun _ _ => trivial), below_set (below_set (below_set HW.out (Nat.le_add_right _ _)) (Nat.le_add_right _ _)) (Nat.le_add_right _ _)⟩
      · obtain ⟨z, hz⟩ : ∃ z : Nat, lasts.length + kk = z := ⟨_, rfl⟩
        obtain ⟨X, HB, HCX, HXC, HLL, hxl, HCUT⟩ := key z (by omega) (by rw [hb, hz])
        have hsum : wrap64 ((lasts.length : Int) + (kk : Int)) = (z : Int) := by clear hw1; unfold wrap64; omega
        rw [HB.out]
        have hlt2 : ¬ rr < kk := by omega
        have hd1 : decide ((rr : Int) < (kk : Int)) = false := decide_eq_false hlt
        clear hxl hp ck hk hs hl hb key HB h0 h1 hc0 hc1 hpl hrr hz
        go_enter Try.func88, Try.ntmps88
        go_wp2_with (fail)
        refine (Clone_b A0 c0 X _ (Kd.C_alloc (Kd.C_alloc HCX.out _) _) HXC.out HLL.out).mono ?_
        rintro e w1 ⟨v, rfl, hR, hB⟩
        obtain ⟨A2, c2, rfl⟩ := Kd.R_slice hR
        have hz : ((w.alloc (Obj.cells #[Value.slice A0 seen.length c0, Value.slice A1 lasts.length c1, Value.bool false] 61)).alloc (Obj.cells #[Value.slice none 0 0, Value.slice none 0 0, Value.bool false] 61)).heap.size = w.heap.size + 2 := by simp
        have hb0 := blk_below (blk_new (w.alloc (Obj.cells #[Value.slice A0 seen.length c0, Value.slice A1 lasts.length c1, Value.bool false] 61)) (.cells #[Value.slice none 0 0, Value.slice none 0 0, Value.bool false] 61)) hB
        rw [show (w.alloc (Obj.cells #[Value.slice A0 seen.length c0, Value.slice A1 lasts.length c1, Value.bool false] 61)).heap.size = w.heap.size + 1 by simp] at hb0
        have HB0 := Aside0.mk hb0
        have HW := Aside0.mk (below_step (below_alloc (below_alloc (Below.refl w.heap.size w) _) _) hB)
        rw [hz] at hR
        have HR := Aside0.mk hR
        have hc_0 := (blk_cell hb0 0).trans rfl
        have hc_1 := (blk_cell hb0 1).trans rfl
        have hc_2 := (blk_cell hb0 2).trans rfl
        have hf_0 := blk_frozen hb0 0
        have hf_1 := blk_frozen hb0 1
        have hf_2 := blk_frozen hb0 2
        clear hz hR hB hb0
        go_wp2
        refine bodyPost_ret (results_cell_row rfl _ _ (w.heap.size + 1) 61 #[.slice A2 X.length c2, .slice A2 X.length c2, .bool false] (0, 0) _ rfl (by refine blk_put (cs := #[.slice A2 X.length c2, .slice A2 X.length c2, .bool false]) ?_ 2 _ rfl; refine blk_put (cs := #[.slice A2 X.length c2, .slice none 0 0, .bool false]) ?_ 1 _ rfl; refine blk_put (cs := #[.slice none 0 0, .slice none 0 0, .bool false]) ?_ 0 _ rfl; exact HB0.out) Try.underlying61 rfl (by kernel_rfl)) rfl ?_
        have HN : Aside0 (∀ b, w.heap.size + 2 ≤ b → b ≠ w.heap.size + 1) := ⟨fun b hb => by omega⟩
        have HR3 := Kd.R_mono (Kd.R_bound HR.out) (ok' := fun b => b ≠ w.heap.size + 1) (fun b hb => HN.out b hb.2.1)
        exact ⟨_, rfl, Kd.R_mono (Kd.R_lower (Kd.R_far (p := ⟨w.heap.size + 1, 2, none⟩) (Kd.R_far (p := ⟨w.heap.size + 1, 1, none⟩) (Kd.R_far (p := ⟨w.heap.size + 1, 0, none⟩) HR3 (fun b hb => hb) _) (fun b hb => hb) _) (fun b hb => hb) _) (Nat.le_add_right _ _)) (fun _ _ => trivial), below_set (below_set (below_set HW.out (Nat.le_add_right _ _)) (Nat.le_add_right _ _)) (Nat.le_add_right _ _)⟩
  · have d0 : decide (0 ≤ k) = false := decide_eq_false ck
    have HB := Aside0.mk (show afterB ⟨seen, lasts, cl⟩ k = lasts by unfold afterB; rw [if_neg ck])
    rw [HB.out]
    clear hp ck
    have HLL := Aside0.mk (show lasts.length < 140737488355328 by omega)
    go_enter Try.func88, Try.ntmps88
    go_wp2_with (fail)
    refine (Clone_b A1 c1 lasts _ (Kd.C_alloc (Kd.C_alloc H1.out _) _) HC1.out HLL.out).mono ?_
    rintro e w1 ⟨v, rfl, hR, hB⟩
    obtain ⟨A2, c2, rfl⟩ := Kd.R_slice hR
    have hz : ((w.alloc (Obj.cells #[Value.slice A0 seen.length c0, Value.slice A1 lasts.length c1, Value.bool cl] 61)).alloc (Obj.cells #[Value.slice none 0 0, Value.slice none 0 0, Value.bool false] 61)).heap.size = w.heap.size + 2 := by simp
    have hb0 := blk_below (blk_new (w.alloc (Obj.cells #[Value.slice A0 seen.length c0, Value.slice A1 lasts.length c1, Value.bool cl] 61)) (.cells #[Value.slice none 0 0, Value.slice none 0 0, Value.bool false] 61)) hB
    rw [show (w.alloc (Obj.cells #[Value.slice A0 seen.length c0, Value.slice A1 lasts.length c1, Value.bool cl] 61)).heap.size = w.heap.size + 1 by simp] at hb0
    have HB0 := Aside0.mk hb0
    have HW := Aside0.mk (below_step (below_alloc (below_alloc (Below.refl w.heap.size w) _) _) hB)
    rw [hz] at hR
    have HR := Aside0.mk hR
    have hc_0 := (blk_cell hb0 0).trans rfl
    have hc_1 := (blk_cell hb0 1).trans rfl
    have hc_2 := (blk_cell hb0 2).trans rfl
    have hf_0 := blk_frozen hb0 0
    have hf_1 := blk_frozen hb0 1
    have hf_2 := blk_frozen hb0 2
    clear hz hR hB hb0
    go_wp2
    refine bodyPost_ret (results_cell_row rfl _ _ (w.heap.size + 1) 61 #[.slice A2 lasts.length c2, .slice A2 lasts.length c2, .bool false] (0, 0) _ rfl (by refine blk_put (cs := #[.slice A2 lasts.length c2, .slice A2 lasts.length c2, .bool false]) ?_ 2 _ rfl; refine blk_put (cs := #[.slice A2 lasts.length c2, .slice none 0 0, .bool false]) ?_ 1 _ rfl; refine blk_put (cs := #[.slice none 0 0, .slice none 0 0, .bool false]) ?_ 0 _ rfl; exact HB0.out) Try.underlying61 rfl (by kernel_rfl)) rfl ?_
    have HN : Aside0 (∀ b, w.heap.size + 2 ≤ b → b ≠ w.heap.size + 1) := ⟨fun b hb => by omega⟩
    have HR3 := Kd.R_mono (Kd.R_bound HR.out) (ok' := fun b => b ≠ w.heap.size + 1) (fun b hb => HN.out b hb.2.1)
    exact ⟨_, rfl, Kd.R_mono (Kd.R_lower (Kd.R_far (p := ⟨w.heap.size + 1, 2, none⟩) (Kd.R_far (p := ⟨w.heap.size + 1, 1, none⟩) (Kd.R_far (p := ⟨w.heap.size + 1, 0, none⟩) HR3 (fun b hb => hb) _) (fun b hb => hb) _) (fun b hb => hb) _) (Nat.le_add_right _ _)) (fun _ _ => trivial), below_set (below_set (below_set HW.out (Nat.le_add_right _ _)) (Nat.le_add_right _ _)) (Nat.le_add_right _ _)⟩
end Go.Proofs.Ytehjbhnlbjbhfaa.Dk
-- DkE
namespace Go.Proofs.Ytehjbhnlbjbhfaa.Dk
open Go Go.RowKit Go.Proofs.YtehjbhnlbjbhfaaW.PrintWords Go.Proofs.YtehjbhnlbjbhfaaW.PrintLast Go.Proofs.YtehjbhnlbjbhfaaW.PrintMore
open Go.Proofs.Ytehjbhnlbjbhfaa.PDiskBegins
attribute [local go_sem] max2_int min2_int max_two min_two
set_option linter.unusedVariables false
set_option linter.unusedSimpArgs false
def midFs (s : DS) (keep : List Int) (i : Nat) : List Fl := (List.range 8).map fun j => if j < i then afterP (fl s j) (kv keep j) else fl s j
theorem midFs_len (s : DS) (keep : List Int) (i : Nat) : (midFs s keep i).length = 8 := by simp [midFs]
theorem midFs_0 (s : DS) (keep : List Int) (h : s.fs.length = 8) : midFs s keep 0 = s.fs := by
  obtain ⟨a0, a1, a2, a3, a4, a5, a6, a7, e⟩ := eight h
  simp [midFs, fl, e, List.range, List.range.loop]
theorem midFs_8 (s : DS) (keep : List Int) (h : s.fs.length = 8) : midFs s keep 8 = fallFs keep 0 s.fs := by
  obtain ⟨a0, a1, a2, a3, a4, a5, a6, a7, e⟩ := eight h
  simp [midFs, fl, e, List.range, List.range.loop, fallFs]
theorem midFs_get (s : DS) (keep : List Int) (i j : Nat) (h : j < 8) : (midFs s keep i).getD j nf = if j < i then afterP (fl s j) (kv keep j) else fl s j := by
  unfold midFs
  rw [List.getD_eq_getElem?_getD, List.getElem?_map, List.getElem?_range h]; rfl
def midS (s : DS) (keep : List Int) (i : Nat) : DS := { s with fs := midFs s keep i }
theorem fl_mid (s : DS) (keep : List Int) (i j : Nat) (h : j < 8) : fl (midS s keep i) j = if j < i then afterP (fl s j) (kv keep j) else fl s j := midFs_get s keep i j h
theorem kv_range {keep : List Int} (h : ∀ x ∈ keep, -9223372036854775808 ≤ x ∧ x ≤ 9223372036854775807) (i : Nat) : -9223372036854775808 ≤ kv keep i ∧ kv keep i ≤ 9223372036854775807 := by
  unfold kv
  by_cases c : i < keep.length
  · rw [if_pos c]
    have : rd keep (i : Int) ∈ keep := by unfold rd; rw [Int.toNat_natCast, List.getD_eq_getElem?_getD, List.getElem?_eq_getElem c]; exact List.getElem_mem c
    exact h _ this
  · rw [if_neg c]; decide
theorem Rows.file {G : Nat → Prop} {W : World} {d : DV} {s : DS} (h : Rows G W d s) (hd : d.fs.length = 8) {i : Nat} (hi : i < 8) {v : FV} {f : Fl} (hf : FR G W v f) {d' : DV} {s' : DS} (ed : d' = { d with fs := d.fs.set i v }) (es : s' = { s with fs := s.fs.set i f }) : Rows G W d' s' := by
  subst ed es
  obtain ⟨h1, h2, h3, h4, h5, h6, h7⟩ := h
  refine ⟨h1, h2, h3, h4, h5, by simp [h6], fun j hj => ?_⟩
  have ea : (DV.f { d with fs := d.fs.set i v } j) = if i = j then v else d.f j := by
    unfold DV.f
    rw [List.getD_eq_getElem?_getD, List.getD_eq_getElem?_getD]
    simp only [List.getElem?_set]
    split
    · rename_i e; subst e; rw [if_pos (by omega)]; rfl
    · rfl
  have eb : (fl { s with fs := s.fs.set i f } j) = if i = j then f else fl s j := by
    unfold fl
    rw [List.getD_eq_getElem?_getD, List.getD_eq_getElem?_getD]
    simp only [List.getElem?_set]
    split
    · rename_i e; subst e; rw [if_pos (by omega)]; rfl
    · rfl
  rw [ea, eb]
  split
  · exact hf
  · exact h7 j hj
theorem mid_set (s : DS) (keep : List Int) {i : Nat} (hi : i < 8) : midS s keep (i + 1) = { midS s keep i with fs := (midS s keep i).fs.set i (afterP (fl s i) (kv keep i)) } := by
  unfold midS
  congr 1
  unfold midFs
  apply List.ext_getElem?
  intro j
  rw [List.getElem?_set]
  simp only [List.getElem?_map, List.length_map, List.length_range]
  rcases Nat.lt_or_ge j 8 with hj | hj
  · rw [List.getElem?_range hj]
    simp only [Option.map_some]
    by_cases e : i = j
    · subst e; rw [if_pos rfl, if_pos hi, if_pos (by omega)]
    · rw [if_neg e]
      by_cases c : j < i
      · rw [if_pos c, if_pos (by omega)]
      · rw [if_neg c, if_neg (by omega)]
  · rw [List.getElem?_eq_none (by simp; exact hj), if_neg (by omega)]; rfl
theorem At.set3 {W : World} {g : Nat} {d : DV} (h : At W g d) {i : Nat} (hi : i < 8) (v u : Value) (b : Bool) : At (((W.setCell ⟨g, 3 + i * 3, none⟩ v).setCell ⟨g, 3 + i * 3 + 1, none⟩ u).setCell ⟨g, 3 + i * 3 + 2, none⟩ (.bool b)) g { d with fs := d.fs.set i ⟨v, u, b⟩ } := by
  have h3 := ((h.setS hi v).setL hi u).setC hi b
  have e : ∀ (d : DV) (x : FV), d.fs.length = 8 → (DV.f { d with fs := d.fs.set i x } i) = x := by
    intro d x hd
    unfold DV.f
    rw [List.getD_eq_getElem?_getD, List.getElem?_set_self (by rw [hd]; exact hi)]; rfl
  rw [e d _ h.1] at h3
  simp only at h3
  have e2 := e { d with fs := d.fs.set i ⟨v, (d.f i).lv, (d.f i).cl⟩ } ⟨v, u, (d.f i).cl⟩ (by simp [h.1])
  simp only at e2
  rw [e2] at h3
  simpa only [List.set_set] using h3
set_option maxHeartbeats 8000000 in
set_option maxRecDepth 100000 in
theorem fall_calls (G : Nat → Prop) (g : Nat) (s : DS) (kV : Value) (keep : List Int) (w : World) (h : IsD G w g s) (hok : Ok s) (hk : Rw (fun b => b = g) .i64 w kV keep) (hkr : ∀ x ∈ keep, -9223372036854775808 ≤ x ∧ x ≤ 9223372036854775807) :
    Calls Try.prog 69 #[.pointer (some ⟨g, 0, none⟩), kV] w fun e w' => e = .returned (.tuple #[]) ∧ IsD G w' g (fallP s keep) ∧ Wr g w w' := by
  have HOK := Aside0.mk hok
  have HK := Aside0.mk hk
  have HKR := Aside0.mk (fun i => kv_range hkr i)
  have H0 := Aside0.mk (show IsD G w g (midS s keep 0) from by unfold midS; rw [midFs_0 s keep hok.len]; exact h)
  have HW := Aside0.mk (Wr.refl g w)
  obtain ⟨A0, c0, rfl, _, _⟩ := hk.slice
  have hm := Kd.C_max (Kd.V_reads' hk).2.2
  clear h hok hk hkr
  go_enter Try.func69, Try.ntmps69
  go_wp2_with (fail)
  go_loopw [6] (fun v6 wr => ∃ i : Nat, i ≤ 8 ∧ v6 = .int .i64 (i : Int) ∧ Aside0 (IsD G wr g (midS s keep i)) ∧ Aside0 (Wr g w wr)) (fun v6 _ => (8 - intOf v6).toNat)
  case atStart => exact ⟨0, by omega, rfl, H0, HW⟩
  case round =>
    obtain ⟨i, hi, rfl, H, HW⟩ := hrel
    clear H0
    by_cases hlt : i < 8
    · obtain ⟨hG, hgg, d, hA, hR⟩ := H.out
      have HG := Aside0.mk (And.intro hG hgg)
      have HA := Aside0.mk hA
      have HRS := Aside0.mk hR
      obtain ⟨f1, f2, f3⟩ := hR.2.2.2.2.2.2 i hlt
      rw [fl_mid s keep i i hlt, if_neg (Nat.lt_irrefl i)] at f1 f2 f3
      obtain ⟨A, c, hv, hvc, hC0⟩ := f1.slice
      obtain ⟨B, b, hx, hxc, hC1⟩ := f2.slice
      have hs := hA.sv hlt
      have hl := hA.lv hlt
      have hc := hA.cl hlt
      rw [hv] at hs
      rw [hx] at hl
      rw [f3] at hc
      have hfs := hA.frozen (3 + i * 3)
      have hfl := hA.frozen (3 + i * 3 + 1)
      have hfc := hA.frozen (3 + i * 3 + 2)
      have HGL := Aside0.mk hA.lt
      have HC0 := Aside0.mk hC0
      have HC1 := Aside0.mk hC1
      have hff := HOK.out.fl_mem hlt
      have HAF := Aside0.mk (fun (W : World) (q0 : (Kd.int .u8).C W A (fl s i).seen.length (fl s i).seen) (q1 : (Kd.int .u8).C W B (fl s i).lasts.length (fl s i).lasts) => after_calls A c B b (fl s i) (kv keep i) W (HKR.out i) q0 hvc q1 hxc (fun e => by
        obtain ⟨t, ht⟩ := HOK.out.pre _ hff e
        rw [ht, List.length_append]; omega) (HOK.out.seen_le hlt) (HOK.out.big _ hff))
      have HST := Aside0.mk (mid_set s keep hlt)
      have HAE := Aside0.mk (after_eq (fl s i) (kv keep i))
      rw [HAE.out] at HST
      clear hG hgg hA hR f1 f2 f3 hv hvc hC0 hx hxc hC1 hff H
      generalize (fl s i).seen.length = n at *
      generalize (fl s i).lasts.length = m at *
      generalize (fl s i).cl = cl at *
      by_cases hkl : i < keep.length
      case' pos =>
        obtain ⟨ad, e0, hcell⟩ := Kd.at_int (Kd.V_reads' (Kd.V_step HK.out (fun b hb hlt => HW.out.block b hlt (fun e => hb e)))).2.2 (i : Int) (by omega) (by omega)
        cases e0
        rw [Int.toNat_natCast] at hcell
        have HKE := Aside0.mk (show kv keep i = rd keep (i : Int) by unfold kv; rw [if_pos hkl])
        rw [← HKE.out] at hcell
      case' neg =>
        have HKE := Aside0.mk (show kv keep i = -1 by unfold kv; rw [if_neg hkl])
        rw [HKE.out] at HAF HST HAE
      case pos =>
        generalize kv keep i = k at *
        go_wp2
        clear hcell
        refine start_ (n := 14) (S := fun w' => w'.cell? ⟨g, 3 + i * 3, none⟩ = some (.slice A n c) ∧ w'.cell? ⟨g, 3 + i * 3 + 1, none⟩ = some (.slice B m b) ∧ w'.cell? ⟨g, 3 + i * 3 + 2, none⟩ = some (.bool cl) ∧ w'.frozen? ⟨g, 3 + i * 3, none⟩ = false ∧ w'.frozen? ⟨g, 3 + i * 3 + 1, none⟩ = false ∧ w'.frozen? ⟨g, 3 + i * 3 + 2, none⟩ = false) (ds := [13]) #[false, false, false, false, false, false, false, false, false, false, false, false, false, false] (by kernel_rfl) rfl rfl ⟨hs, hl, hc, hfs, hfl, hfc⟩ (fun hHeld => ?_)
        refine pure_ (i := 0) (N := some 17) (v := ?_) (a' := ?_) #[true, false, false, false, false, false, false, false, false, false, false, false, false, false] rfl rfl (by kernel_rfl) (fun _ _ _ h => h) (Or.inl ⟨by rfl, ?_⟩) ?_ ?_
        rotate_left
        · intro w'
          go_simp
          with_reducible rfl
        rotate_left
        · simp only [Act.put, List.setIfInBounds_toArray, List.set_cons_zero, List.set_cons_succ, i64_w, i32_w]
          rfl
        refine pure_ (i := 1) (N := some 18) (v := ?_) (a' := ?_) #[true, true, false, false, false, false, false, false, false, false, false, false, false, false] rfl rfl (by kernel_rfl) (fun _ _ _ h => h) (Or.inl ⟨by rfl, ?_⟩) ?_ ?_
        rotate_left
        · intro w'
          go_simp
          with_reducible rfl
        rotate_left
        · simp only [Act.put, List.setIfInBounds_toArray, List.set_cons_zero, List.set_cons_succ, i64_w, i32_w]
          rfl
        refine pure_ (i := 2) (N := some 19) (v := ?_) (a' := ?_) #[true, true, true, false, false, false, false, false, false, false, false, false, false, false] rfl rfl (by kernel_rfl) (fun _ _ _ h => h) (Or.inl ⟨by rfl, ?_⟩) ?_ ?_
        rotate_left
        · intro w'
          go_simp
          with_reducible rfl
        rotate_left
        · simp only [Act.put, List.setIfInBounds_toArray, List.set_cons_zero, List.set_cons_succ, i64_w, i32_w]
          rfl
        refine pure_ (i := 3) (N := some 20) (v := ?_) (a' := ?_) #[true, true, true, true, false, false, false, false, false, false, false, false, false, false] rfl rfl (by kernel_rfl) (fun _ _ _ h => h) (Or.inl ⟨by rfl, ?_⟩) ?_ ?_
        rotate_left
        · intro w'
          go_simp
          with_reducible rfl
        rotate_left
        · simp only [Act.put, List.setIfInBounds_toArray, List.set_cons_zero, List.set_cons_succ, i64_w, i32_w]
          rfl
        refine pure_ (i := 4) (N := some 21) (v := ?_) (a' := ?_) #[true, true, true, true, true, false, false, false, false, false, false, false, false, false] rfl rfl (by kernel_rfl) (fun _ _ _ h => h) (Or.inl ⟨by rfl, ?_⟩) ?_ ?_
        rotate_left
        · intro w'
          go_simp
          with_reducible rfl
        rotate_left
        · simp only [Act.put, List.setIfInBounds_toArray, List.set_cons_zero, List.set_cons_succ, i64_w, i32_w]
          rfl
        refine pure_ (i := 5) (N := some 22) (v := ?_) (a' := ?_) #[true, true, true, true, true, true, false, false, false, false, false, false, false, false] rfl rfl (by kernel_rfl) (fun _ _ _ h => h) (Or.inl ⟨by rfl, ?_⟩) ?_ ?_
        rotate_left
        · intro w'
          go_simp
          with_reducible rfl
        rotate_left
        · simp only [Act.put, List.setIfInBounds_toArray, List.set_cons_zero, List.set_cons_succ, i64_w, i32_w]
          rfl
        refine pure_ (i := 6) (N := some 23) (v := ?_) (a' := ?_) #[true, true, true, true, true, true, true, false, false, false, false, false, false, false] rfl rfl (by kernel_rfl) (fun _ _ _ h => h) (Or.inl ⟨by rfl, ?_⟩) ?_ ?_
        rotate_left
        · intro w'
          go_simp
          with_reducible rfl
        rotate_left
        · simp only [Act.put, List.setIfInBounds_toArray, List.set_cons_zero, List.set_cons_succ, i64_w, i32_w]
          rfl
        refine pure_ (i := 8) (N := some 25) (v := ?_) (a' := ?_) #[true, true, true, true, true, true, true, false, true, false, false, false, false, false] rfl rfl (by kernel_rfl) (fun _ _ _ h => h) (Or.inl ⟨by rfl, ?_⟩) ?_ ?_
        rotate_left
        · intro w'
          go_simp
          with_reducible rfl
        rotate_left
        · simp only [Act.put, List.setIfInBounds_toArray, List.set_cons_zero, List.set_cons_succ, i64_w, i32_w]
          rfl
        refine pure_ (i := 10) (N := some 27) (v := ?_) (a' := ?_) #[true, true, true, true, true, true, true, false, true, false, true, false, false, false] rfl rfl (by kernel_rfl) (fun _ _ _ h => h) (Or.inl ⟨by rfl, ?_⟩) ?_ ?_
        rotate_left
        · intro w'
          go_simp
          with_reducible rfl
        rotate_left
        · simp only [Act.put, List.setIfInBounds_toArray, List.set_cons_zero, List.set_cons_succ, i64_w, i32_w]
          rfl
        refine pure_ (i := 11) (N := some 28) (v := ?_) (a' := ?_) #[true, true, true, true, true, true, true, false, true, false, true, true, false, false] rfl rfl (by kernel_rfl) (fun _ _ _ h => h) (Or.inl ⟨by rfl, ?_⟩) ?_ ?_
        rotate_left
        · intro w'
          go_simp
          with_reducible rfl
        rotate_left
        · simp only [Act.put, List.setIfInBounds_toArray, List.set_cons_zero, List.set_cons_succ, i64_w, i32_w]
          rfl
        refine take_ (i := 7) (N := some 24) (v := ?_) (a' := ?_) #[true, true, true, true, true, true, true, true, true, false, true, true, false, false] rfl rfl (by kernel_rfl) (fun _ _ _ h => h) (Or.inl ⟨by rfl, ?_⟩) hHeld ?_ ?_
        rotate_left
        · rintro w' ⟨s0, s1, s2, s3, s4, s5⟩
          go_simp
          with_reducible rfl
        rotate_left
        · simp only [Act.put, List.setIfInBounds_toArray, List.set_cons_zero, List.set_cons_succ, i64_w, i32_w]
          rfl
        refine one_ (i := 9) (N := some 26) #[true, true, true, true, true, true, true, true, true, true, true, true, false, false] rfl rfl (by kernel_rfl) (by decide) (fun K hK => ?_)
        refine goes_ Try.func88 (by kernel_rfl) rfl #[.agg #[.slice A n c, .slice B m b, .bool cl], .int .i64 k] (by rfl) rfl rfl (by first | rfl | (simp; done) | (simp only [List.map_toArray, List.map_cons, List.map_nil]; rfl)) ?_
        with_reducible refine (HAF.out _ (by repeat (first | exact HC0.out | (with_reducible refine Kd.C_drew ?_) | (with_reducible refine Kd.C_drewN ?_ _))) (by repeat (first | exact HC1.out | (with_reducible refine Kd.C_drew ?_) | (with_reducible refine Kd.C_drewN ?_ _)))).mono ?_
        rintro e w3 ⟨v, rfl, hR, hb⟩
        refine ⟨_, rfl, ?_⟩
        obtain ⟨A3, c3, e3⟩ := Kd.R_slice hR
        subst e3
        refine hK.out _ _ ⟨(hb.cell (p := ⟨g, 3 + i * 3, none⟩) HGL.out).trans hHeld.1, (hb.cell (p := ⟨g, 3 + i * 3 + 1, none⟩) HGL.out).trans hHeld.2.1, (hb.cell (p := ⟨g, 3 + i * 3 + 2, none⟩) HGL.out).trans hHeld.2.2.1, (hb.frozen (p := ⟨g, 3 + i * 3, none⟩) HGL.out).trans hHeld.2.2.2.1, (hb.frozen (p := ⟨g, 3 + i * 3 + 1, none⟩) HGL.out).trans hHeld.2.2.2.2.1, (hb.frozen (p := ⟨g, 3 + i * 3 + 2, none⟩) HGL.out).trans hHeld.2.2.2.2.2⟩ (fun hHeld => ?_)
        clear hK K
        refine norm_ (a' := ?_) ?_ ?_
        rotate_left
        · show Act.put _ (some 26) _ = _
          simp only [Act.put, List.setIfInBounds_toArray, List.set_cons_zero, List.set_cons_succ, i64_w, i32_w]
          rfl
        refine pure_ (i := 12) (N := some 29) (v := ?_) (a' := ?_) #[true, true, true, true, true, true, true, true, true, true, true, true, true, false] rfl rfl (by kernel_rfl) (fun _ _ _ h => h) (Or.inl ⟨by rfl, ?_⟩) ?_ ?_
        rotate_left
        · intro w'
          go_simp
          with_reducible rfl
        rotate_left
        · simp only [Act.put, List.setIfInBounds_toArray, List.set_cons_zero, List.set_cons_succ, i64_w, i32_w]
          rfl
        refine last_ (i := 13) (N := none) #[true, true, true, true, true, true, true, true, true, true, true, true, true, true] rfl rfl (by kernel_rfl) (by decide) (fun K hK => ?_)
        obtain ⟨hx0, hx1, hx2, hy0, hy1, hy2⟩ := hHeld
        refine skip_ (w1 := ?_) (by rfl) rfl ?_ ?_
        rotate_left
        · go_simp
          rfl
        refine hK.out _ _ ?_
        clear hK K
        refine done_ (by kernel_rfl) ?_
        have HB3 := Aside0.mk (below_step (below_drew1 (Below.refl wr.heap.size wr)) hb)
        have HR3 := Aside0.mk hR
        clear hb hR hHeld hs hl hc hfs hfl hfc
        go_wp2
        go_roundw
        case rel =>
          have hw3 : Wr g wr w3 := Wr.of_below HB3.out
          have hA3 := HA.out.same (HB3.out.block g HGL.out)
          have hRw := Rw.of_R HR3.out (G := G) (fun b hb => HG.out.1 b hb)
          have hA4 := hA3.set3 hlt (.slice A3 (afterB (fl s i) k).length c3) (.slice A3 (afterB (fl s i) k).length c3) false
          have hw4 := ((hw3.set (3 + i * 3) (.slice A3 (afterB (fl s i) k).length c3)).set (3 + i * 3 + 1) (.slice A3 (afterB (fl s i) k).length c3)).set (3 + i * 3 + 2) (.bool false)
          have hw43 := (((Wr.refl g w3).set (3 + i * 3) (.slice A3 (afterB (fl s i) k).length c3)).set (3 + i * 3 + 1) (.slice A3 (afterB (fl s i) k).length c3)).set (3 + i * 3 + 2) (.bool false)
          refine ⟨i + 1, by omega, by go_num, ⟨?_⟩, ⟨HW.out.trans hw4⟩⟩
          have hRw4 := hRw.wr hw43 HG.out.2
          exact ⟨fun b hb => Nat.lt_of_lt_of_le (HG.out.1 b hb) hw4.size, HG.out.2, _, hA4, (HRS.out.wr hw4 HG.out.2).file HA.out.1 hlt (f := ⟨afterB (fl s i) k, afterB (fl s i) k, false⟩) ⟨hRw4, hRw4, rfl⟩ rfl HST.out⟩
        case measure => simp [intOf]; omega
      case neg =>
        go_wp2
        refine start_ (n := 14) (S := fun w' => w'.cell? ⟨g, 3 + i * 3, none⟩ = some (.slice A n c) ∧ w'.cell? ⟨g, 3 + i * 3 + 1, none⟩ = some (.slice B m b) ∧ w'.cell? ⟨g, 3 + i * 3 + 2, none⟩ = some (.bool cl) ∧ w'.frozen? ⟨g, 3 + i * 3, none⟩ = false ∧ w'.frozen? ⟨g, 3 + i * 3 + 1, none⟩ = false ∧ w'.frozen? ⟨g, 3 + i * 3 + 2, none⟩ = false) (ds := [13]) #[false, false, false, false, false, false, false, false, false, false, false, false, false, false] (by kernel_rfl) rfl rfl ⟨hs, hl, hc, hfs, hfl, hfc⟩ (fun hHeld => ?_)
        refine pure_ (i := 0) (N := some 17) (v := ?_) (a' := ?_) #[true, false, false, false, false, false, false, false, false, false, false, false, false, false] rfl rfl (by kernel_rfl) (fun _ _ _ h => h) (Or.inl ⟨by rfl, ?_⟩) ?_ ?_
        rotate_left
        · intro w'
          go_simp
          with_reducible rfl
        rotate_left
        · simp only [Act.put, List.setIfInBounds_toArray, List.set_cons_zero, List.set_cons_succ, i64_w, i32_w]
          rfl
        refine pure_ (i := 1) (N := some 18) (v := ?_) (a' := ?_) #[true, true, false, false, false, false, false, false, false, false, false, false, false, false] rfl rfl (by kernel_rfl) (fun _ _ _ h => h) (Or.inl ⟨by rfl, ?_⟩) ?_ ?_
        rotate_left
        · intro w'
          go_simp
          with_reducible rfl
        rotate_left
        · simp only [Act.put, List.setIfInBounds_toArray, List.set_cons_zero, List.set_cons_succ, i64_w, i32_w]
          rfl
        refine pure_ (i := 2) (N := some 19) (v := ?_) (a' := ?_) #[true, true, true, false, false, false, false, false, false, false, false, false, false, false] rfl rfl (by kernel_rfl) (fun _ _ _ h => h) (Or.inl ⟨by rfl, ?_⟩) ?_ ?_
        rotate_left
        · intro w'
          go_simp
          with_reducible rfl
        rotate_left
        · simp only [Act.put, List.setIfInBounds_toArray, List.set_cons_zero, List.set_cons_succ, i64_w, i32_w]
          rfl
        refine pure_ (i := 3) (N := some 20) (v := ?_) (a' := ?_) #[true, true, true, true, false, false, false, false, false, false, false, false, false, false] rfl rfl (by kernel_rfl) (fun _ _ _ h => h) (Or.inl ⟨by rfl, ?_⟩) ?_ ?_
        rotate_left
        · intro w'
          go_simp
          with_reducible rfl
        rotate_left
        · simp only [Act.put, List.setIfInBounds_toArray, List.set_cons_zero, List.set_cons_succ, i64_w, i32_w]
          rfl
        refine pure_ (i := 4) (N := some 21) (v := ?_) (a' := ?_) #[true, true, true, true, true, false, false, false, false, false, false, false, false, false] rfl rfl (by kernel_rfl) (fun _ _ _ h => h) (Or.inl ⟨by rfl, ?_⟩) ?_ ?_
        rotate_left
        · intro w'
          go_simp
          with_reducible rfl
        rotate_left
        · simp only [Act.put, List.setIfInBounds_toArray, List.set_cons_zero, List.set_cons_succ, i64_w, i32_w]
          rfl
        refine pure_ (i := 5) (N := some 22) (v := ?_) (a' := ?_) #[true, true, true, true, true, true, false, false, false, false, false, false, false, false] rfl rfl (by kernel_rfl) (fun _ _ _ h => h) (Or.inl ⟨by rfl, ?_⟩) ?_ ?_
        rotate_left
        · intro w'
          go_simp
          with_reducible rfl
        rotate_left
        · simp only [Act.put, List.setIfInBounds_toArray, List.set_cons_zero, List.set_cons_succ, i64_w, i32_w]
          rfl
        refine pure_ (i := 6) (N := some 23) (v := ?_) (a' := ?_) #[true, true, true, true, true, true, true, false, false, false, false, false, false, false] rfl rfl (by kernel_rfl) (fun _ _ _ h => h) (Or.inl ⟨by rfl, ?_⟩) ?_ ?_
        rotate_left
        · intro w'
          go_simp
          with_reducible rfl
        rotate_left
        · simp only [Act.put, List.setIfInBounds_toArray, List.set_cons_zero, List.set_cons_succ, i64_w, i32_w]
          rfl
        refine pure_ (i := 8) (N := some 25) (v := ?_) (a' := ?_) #[true, true, true, true, true, true, true, false, true, false, false, false, false, false] rfl rfl (by kernel_rfl) (fun _ _ _ h => h) (Or.inl ⟨by rfl, ?_⟩) ?_ ?_
        rotate_left
        · intro w'
          go_simp
          with_reducible rfl
        rotate_left
        · simp only [Act.put, List.setIfInBounds_toArray, List.set_cons_zero, List.set_cons_succ, i64_w, i32_w]
          rfl
        refine pure_ (i := 10) (N := some 27) (v := ?_) (a' := ?_) #[true, true, true, true, true, true, true, false, true, false, true, false, false, false] rfl rfl (by kernel_rfl) (fun _ _ _ h => h) (Or.inl ⟨by rfl, ?_⟩) ?_ ?_
        rotate_left
        · intro w'
          go_simp
          with_reducible rfl
        rotate_left
        · simp only [Act.put, List.setIfInBounds_toArray, List.set_cons_zero, List.set_cons_succ, i64_w, i32_w]
          rfl
        refine pure_ (i := 11) (N := some 28) (v := ?_) (a' := ?_) #[true, true, true, true, true, true, true, false, true, false, true, true, false, false] rfl rfl (by kernel_rfl) (fun _ _ _ h => h) (Or.inl ⟨by rfl, ?_⟩) ?_ ?_
        rotate_left
        · intro w'
          go_simp
          with_reducible rfl
        rotate_left
        · simp only [Act.put, List.setIfInBounds_toArray, List.set_cons_zero, List.set_cons_succ, i64_w, i32_w]
          rfl
        refine take_ (i := 7) (N := some 24) (v := ?_) (a' := ?_) #[true, true, true, true, true, true, true, true, true, false, true, true, false, false] rfl rfl (by kernel_rfl) (fun _ _ _ h => h) (Or.inl ⟨by rfl, ?_⟩) hHeld ?_ ?_
        rotate_left
        · rintro w' ⟨s0, s1, s2, s3, s4, s5⟩
          go_simp
          with_reducible rfl
        rotate_left
        · simp only [Act.put, List.setIfInBounds_toArray, List.set_cons_zero, List.set_cons_succ, i64_w, i32_w]
          rfl
        refine one_ (i := 9) (N := some 26) #[true, true, true, true, true, true, true, true, true, true, true, true, false, false] rfl rfl (by kernel_rfl) (by decide) (fun K hK => ?_)
        refine goes_ Try.func88 (by kernel_rfl) rfl #[.agg #[.slice A n c, .slice B m b, .bool cl], .int .i64 (-1)] (by rfl) rfl rfl (by first | rfl | (simp; done) | (simp only [List.map_toArray, List.map_cons, List.map_nil]; rfl)) ?_
        with_reducible refine (HAF.out _ (by repeat (first | exact HC0.out | (with_reducible refine Kd.C_drew ?_) | (with_reducible refine Kd.C_drewN ?_ _))) (by repeat (first | exact HC1.out | (with_reducible refine Kd.C_drew ?_) | (with_reducible refine Kd.C_drewN ?_ _)))).mono ?_
        rintro e w3 ⟨v, rfl, hR, hb⟩
        refine ⟨_, rfl, ?_⟩
        obtain ⟨A3, c3, e3⟩ := Kd.R_slice hR
        subst e3
        refine hK.out _ _ ⟨(hb.cell (p := ⟨g, 3 + i * 3, none⟩) HGL.out).trans hHeld.1, (hb.cell (p := ⟨g, 3 + i * 3 + 1, none⟩) HGL.out).trans hHeld.2.1, (hb.cell (p := ⟨g, 3 + i * 3 + 2, none⟩) HGL.out).trans hHeld.2.2.1, (hb.frozen (p := ⟨g, 3 + i * 3, none⟩) HGL.out).trans hHeld.2.2.2.1, (hb.frozen (p := ⟨g, 3 + i * 3 + 1, none⟩) HGL.out).trans hHeld.2.2.2.2.1, (hb.frozen (p := ⟨g, 3 + i * 3 + 2, none⟩) HGL.out).trans hHeld.2.2.2.2.2⟩ (fun hHeld => ?_)
        clear hK K
        refine norm_ (a' := ?_) ?_ ?_
        rotate_left
        · show Act.put _ (some 26) _ = _
          simp only [Act.put, List.setIfInBounds_toArray, List.set_cons_zero, List.set_cons_succ, i64_w, i32_w]
          rfl
        refine pure_ (i := 12) (N := some 29) (v := ?_) (a' := ?_) #[true, true, true, true, true, true, true, true, true, true, true, true, true, false] rfl rfl (by kernel_rfl) (fun _ _ _ h => h) (Or.inl ⟨by rfl, ?_⟩) ?_ ?_
        rotate_left
        · intro w'
          go_simp
          with_reducible rfl
        rotate_left
        · simp only [Act.put, List.setIfInBounds_toArray, List.set_cons_zero, List.set_cons_succ, i64_w, i32_w]
          rfl
        refine last_ (i := 13) (N := none) #[true, true, true, true, true, true, true, true, true, true, true, true, true, true] rfl rfl (by kernel_rfl) (by decide) (fun K hK => ?_)
        obtain ⟨hx0, hx1, hx2, hy0, hy1, hy2⟩ := hHeld
        refine skip_ (w1 := ?_) (by rfl) rfl ?_ ?_
        rotate_left
        · go_simp
          rfl
        refine hK.out _ _ ?_
        clear hK K
        refine done_ (by kernel_rfl) ?_
        have HB3 := Aside0.mk (below_step (below_drew1 (Below.refl wr.heap.size wr)) hb)
        have HR3 := Aside0.mk hR
        clear hb hR hHeld hs hl hc hfs hfl hfc
        go_wp2
        go_roundw
        case rel =>
          have hw3 : Wr g wr w3 := Wr.of_below HB3.out
          have hA3 := HA.out.same (HB3.out.block g HGL.out)
          have hRw := Rw.of_R HR3.out (G := G) (fun b hb => HG.out.1 b hb)
          have hA4 := hA3.set3 hlt (.slice A3 (afterB (fl s i) (-1)).length c3) (.slice A3 (afterB (fl s i) (-1)).length c3) false
          have hw4 := ((hw3.set (3 + i * 3) (.slice A3 (afterB (fl s i) (-1)).length c3)).set (3 + i * 3 + 1) (.slice A3 (afterB (fl s i) (-1)).length c3)).set (3 + i * 3 + 2) (.bool false)
          have hw43 := (((Wr.refl g w3).set (3 + i * 3) (.slice A3 (afterB (fl s i) (-1)).length c3)).set (3 + i * 3 + 1) (.slice A3 (afterB (fl s i) (-1)).length c3)).set (3 + i * 3 + 2) (.bool false)
          refine ⟨i + 1, by omega, by go_num, ⟨?_⟩, ⟨HW.out.trans hw4⟩⟩
          have hRw4 := hRw.wr hw43 HG.out.2
          exact ⟨fun b hb => Nat.lt_of_lt_of_le (HG.out.1 b hb) hw4.size, HG.out.2, _, hA4, (HRS.out.wr hw4 HG.out.2).file HA.out.1 hlt (f := ⟨afterB (fl s i) (-1), afterB (fl s i) (-1), false⟩) ⟨hRw4, hRw4, rfl⟩ rfl HST.out⟩
        case measure => simp [intOf]; omega
    · obtain rfl : i = 8 := by omega
      rw [show ((8 : Nat) : Int) = 8 from rfl]
      have HE := Aside0.mk (midFs_8 s keep HOK.out.len)
      obtain ⟨hG, hgg, d, hA, hR⟩ := H.out
      have hc0 := hA.c0
      have hc1 := hA.c1
      have hc2 := hA.c2
      have hc28 := hA.c28
      have hf0 := hA.frozen 0
      have hf1 := hA.frozen 1
      have hf2 := hA.frozen 2
      have hf28 := hA.frozen 28
      obtain ⟨A, c, hv, _, _⟩ := hR.2.2.1.slice
      rw [hv] at hc2
      have HA := Aside0.mk hA
      have HR := Aside0.mk hR
      clear hA hR hlt hi hv hG hgg
      go_wp2
      first | go_end0 | ((try simp only [Exit.inBlock, Exit.then]); refine bodyPost_ret (results_none rfl _ _ _) rfl ?_)
      have hA4 := (((HA.out.set28 true).set0 false).set1 0).set2 (.slice none 0 0)
      have hw4 := (((((Wr.refl g wr).set 28 (.bool true)).set 0 (.bool false)).set 1 (.int .i64 0)).set 2 (.slice none 0 0))
      refine ⟨rfl, ?_, HW.out.trans hw4⟩
      have hr := HR.out.wr hw4 H.out.gg
      refine ⟨fun b hb => Nat.lt_of_lt_of_le (H.out.lt b hb) hw4.size, H.out.gg, _, hA4, rfl, rfl, Rw.nil _ _ _, hr.2.2.2.1, rfl, ?_, ?_⟩
      · show (fallFs keep 0 s.fs).length = 8
        rw [← HE.out]; exact midFs_len _ _ _
      · intro j hj
        have h7 := hr.2.2.2.2.2.2 j hj
        have e : fl (fallP s keep) j = fl (midS s keep 8) j := by
          unfold fl fallP midS
          simp only
          rw [← HE.out]
        rw [e]
        exact h7
end Go.Proofs.Ytehjbhnlbjbhfaa.Dk
