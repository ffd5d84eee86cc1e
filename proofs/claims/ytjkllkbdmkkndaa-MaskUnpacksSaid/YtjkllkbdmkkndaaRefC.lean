/- The contracts of the reference's functions over sets, third part: flipped, and the number with a sign. -/
import Derived.Test.YtjkllkbdmkkndaaRefB

namespace Go.Proofs.Ytjkllkbdmkkndaa.Ref
open Go Go.RowKit Go.Proofs.YtjkllkbdmkkndaaW.PrintWords Go.Proofs.YtjkllkbdmkkndaaW.PrintLast Go.Proofs.YtjkllkbdmkkndaaW.PrintMore Go.Proofs.Ytjkllkbdmkkndaa.Bits
set_option linter.unusedVariables false
def flipTo (x k j : Nat) : Bool := decide (j < k) && x.testBit (63 - j)
theorem flip0 (x : Nat) : W (flipTo x 0) = 0 := W_of (x := 0) (by decide) (fun i _ => by rw [Nat.zero_testBit]; rfl)
theorem flip_step (x k : Nat) (b : Bool) (hk : k < 64) (hb : x.testBit (63 - k) = b) : (bl (W (flipTo x k))).setIfInBounds k (.bool b) = bl (W (flipTo x (k + 1))) :=
  W_set _ _ k b hk (by unfold flipTo; rw [decide_eq_true (Nat.lt_succ_self k), Bool.true_and, hb]) (fun i _ hne => by
    unfold flipTo
    by_cases h : i < k
    · rw [decide_eq_true h, decide_eq_true (show i < k + 1 by omega)]
    · rw [decide_eq_false h, decide_eq_false (show ¬ i < k + 1 by omega)])
set_option maxHeartbeats 800000 in
set_option maxRecDepth 100000 in
theorem Flip_calls (x : Nat) (hx : x < 2 ^ 64) (w : World) :
    Calls Try.prog 35 #[.int .u64 x] w fun e w' => e = .returned (.int .u64 (W (flipTo x 64) : Nat)) ∧ Below w.heap.size w w' := by
  go_enter Try.func35, Try.ntmps35
  go_wp2_with (fail)
  refine (From_calls x hx _).mono ?_
  rintro e w1 ⟨rfl, hb⟩
  have HB := Aside0.mk hb
  have hz := hb.size
  clear hb
  have HS := Aside0.mk (heap_alloc_new w1 (.cells (bl 0) 25))
  rw [bl_zero] at HS
  go_wp2_with (first | (refine wpList_store_rowTo rfl 25 (.tmp 3) (.tmp 7) rfl rfl w1.heap.size (bl x) rfl rfl 25 _ HS.out (bl_info _) (by rw [bl_size]; rfl) (bl_one _) ?_))
  have HS1 := Aside0.mk (blk_alloc (setRow_heap (w1.alloc (.cells (bl 0) 25)) w1.heap.size (bl 0) (bl x) 25 (0, 0) (heap_alloc_new w1 _)) (.cells (bl 0) 25))
  have HS2 := heap_alloc_new ((w1.alloc (.cells (bl 0) 25)).setRow w1.heap.size (bl x)) (.cells (bl 0) 25)
  rw [size_setRow, size_al] at HS2
  have HS2 := Aside0.mk HS2
  have HBB := Aside0.mk (Below.alloc (below_setRow (HB.out.alloc hz (.cells (bl 0) 25)) hz (bl x)) (by rw [size_setRow, size_al]; omega) (.cells (bl 0) 25))
  rw [bl_zero] at HS1 HS2 HBB
  go_loopw [8] (fun v8 wr => ∃ k : Nat, k ≤ 64 ∧ v8 = .int .i64 (k : Int) ∧ Aside0 (wr.heap[w1.heap.size]? = some (.cells (bl x) 25 (0, 0))) ∧ Aside0 (wr.heap[w1.heap.size + 1]? = some (.cells (bl (W (flipTo x k))) 25 (0, 0))) ∧ Aside0 (Below w.heap.size w wr)) (fun v8 _ => (64 - intOf v8).toNat)
  case atStart => exact ⟨0, by omega, rfl, ⟨HS1.out⟩, ⟨by rw [flip0, bl_zero]; exact HS2.out⟩, ⟨HBB.out⟩⟩
  case round =>
    clear HS HS1 HS2 HBB HB
    obtain ⟨k, hk, rfl, H1, H2, HB⟩ := hrel
    by_cases hlt : k < 64
    · obtain ⟨j, hj⟩ : ∃ j : Nat, j = 63 - k := ⟨_, rfl⟩
      have hji : (63 : Int) - (k : Int) = (j : Int) := by omega
      have hj64 : j < 64 := by omega
      have HJ := Aside0.mk hj
      clear hj
      have hc1 := (blk_cell H1.out j).trans (bl_get _ j hj64)
      generalize hb : x.testBit j = b at hc1
      have HST := Aside0.mk (flip_step x k b hlt (by rw [← HJ.out]; exact hb))
      clear hb
      have hc := (blk_cell H2.out k).trans (bl_get _ k hlt)
      have hf := blk_frozen H2.out k
      go_wp2
      go_roundw
      case rel => exact ⟨k + 1, by omega, rfl, ⟨blk_far H1.out (by show w1.heap.size ≠ w1.heap.size + 1; omega) _⟩, ⟨(blk_set H2.out k _).trans (by rw [HST.out])⟩, ⟨HB.out.setCell (by show w.heap.size ≤ w1.heap.size + 1; omega) _⟩⟩
      case measure => simp [intOf]; omega
    · obtain rfl : k = 64 := by omega
      go_wp2_with (first | (refine wpList_load_row rfl 25 (.tmp 4) rfl (w1.heap.size + 1) rfl 25 _ (0, 0) _ H2.out Try.underlying25 rfl (bl_info _) ?_))
      refine (Word_calls (W (flipTo x 64)) (W_lt _) _).mono ?_
      rintro e w2 ⟨rfl, hb2⟩
      have HB2 := Aside0.mk hb2
      clear hb2
      go_wp2
      go_ret
      exact ⟨rfl, below_then HB.out HB.out.size HB2.out⟩
def sgTo (x b k j : Nat) : Bool := if b ≤ j ∧ j < k then x.testBit (b - 1) else x.testBit j
theorem sg0 (x b : Nat) : bl x = bl (W (sgTo x b 0)) := bl_W _ (fun i _ => by unfold sgTo; rw [if_neg (by omega)])
theorem sg_low (x b k : Nat) (h : k < b) : sgTo x b k = sgTo x b (k + 1) := by
  funext j; unfold sgTo
  by_cases h1 : b ≤ j ∧ j < k
  · omega
  · rw [if_neg h1, if_neg (by omega)]
theorem sg_step (x b k : Nat) (s : Bool) (hk : k < 64) (h : b ≤ k) (hs : x.testBit (b - 1) = s) : (bl (W (sgTo x b k))).setIfInBounds k (.bool s) = bl (W (sgTo x b (k + 1))) :=
  W_set _ _ k s hk (by unfold sgTo; rw [if_pos (by omega), hs]) (fun i _ hne => by
    unfold sgTo
    by_cases h1 : b ≤ i ∧ i < k
    · rw [if_pos h1, if_pos (by omega)]
    · rw [if_neg h1, if_neg (by omega)])
def signedOf (x b : Nat) : Int := wrap64 ((W (sgTo x b 64) : Nat) : Int)
set_option maxHeartbeats 800000 in
set_option maxRecDepth 100000 in
theorem Signed_out (x : Int) (n : Int) (hn : n < 1 ∨ 64 < n) (w : World) :
    Calls Try.prog 23 #[.int .u64 x, .int .i64 n] w fun e w' => e = .returned (.int .i64 0) ∧ Below w.heap.size w w' := by
  have hc : (n < 1 ∧ decide (n < 1) = true) ∨ (64 < n ∧ decide (n < 1) = false ∧ decide (64 < n) = true) := by
    rcases hn with h | h
    · exact .inl ⟨h, decide_eq_true h⟩
    · exact .inr ⟨h, decide_eq_false (by omega), decide_eq_true h⟩
  clear hn
  rcases hc with ⟨_h1, h2⟩ | ⟨_h1, h2, h3⟩
  all_goals
    go_enter Try.func23, Try.ntmps23
    go_wp2
    go_ret
    exact ⟨rfl, Below.refl _ _⟩
set_option maxHeartbeats 1600000 in
set_option maxRecDepth 100000 in
theorem Signed_in (x b : Nat) (hx : x < 2 ^ 64) (h1 : 1 ≤ b) (h64 : b ≤ 64) (w : World) :
    Calls Try.prog 23 #[.int .u64 x, .int .i64 (b : Int)] w fun e w' => e = .returned (.int .i64 (signedOf x b)) ∧ Below w.heap.size w w' := by
  have hd1 : decide ((b : Int) < 1) = false := decide_eq_false (by omega)
  have hd2 : decide ((64 : Int) < (b : Int)) = false := decide_eq_false (by omega)
  obtain ⟨j, hj⟩ : ∃ j : Nat, j = b - 1 := ⟨_, rfl⟩
  have hji : (b : Int) - 1 = (j : Int) := by omega
  have hj64 : j < 64 := by omega
  have HJ := Aside0.mk hj
  clear hj
  generalize hs : x.testBit j = s
  have HSB := Aside0.mk hs
  go_enter Try.func23, Try.ntmps23
  go_wp2_with (fail)
  refine (From_calls x hx _).mono ?_
  rintro e w1 ⟨rfl, hb⟩
  have HB := Aside0.mk hb
  have hz := hb.size
  clear hb
  have HS := Aside0.mk (heap_alloc_new w1 (.cells (bl 0) 25))
  have HS1' := setRow_heap (w1.alloc (.cells (bl 0) 25)) w1.heap.size (bl 0) (bl x) 25 (0, 0) (heap_alloc_new w1 _)
  have hc0 := (blk_cell HS1' j).trans (bl_get _ j hj64)
  have HS1 := Aside0.mk HS1'
  have HBB := Aside0.mk (below_setRow (HB.out.alloc hz (.cells (bl 0) 25)) hz (bl x))
  clear HS1'
  rw [hs] at hc0
  clear hs
  rw [bl_zero] at HS HS1 HBB hc0
  go_wp2_with (first | (refine wpList_store_rowTo rfl 25 (.tmp 5) (.tmp 15) rfl rfl w1.heap.size (bl x) rfl rfl 25 _ HS.out (bl_info _) (by rw [bl_size]; rfl) (bl_one _) ?_))
  go_loopw [20] (fun v20 wr => ∃ k : Nat, k ≤ 64 ∧ v20 = .int .i64 (k : Int) ∧ Aside0 (wr.heap[w1.heap.size]? = some (.cells (bl (W (sgTo x b k))) 25 (0, 0))) ∧ Aside0 (Below w.heap.size w wr)) (fun v20 _ => (64 - intOf v20).toNat)
  case atStart => exact ⟨0, by omega, rfl, ⟨by rw [← sg0]; exact HS1.out⟩, ⟨HBB.out⟩⟩
  case round =>
    clear HS HS1 HBB HB hc0
    obtain ⟨k, hk, rfl, H1, HB⟩ := hrel
    by_cases hlt : k < 64
    · by_cases hbk : b ≤ k
      · have HST := Aside0.mk (sg_step x b k s hlt hbk (by rw [← HJ.out]; exact HSB.out))
        have hc := (blk_cell H1.out k).trans (bl_get _ k hlt)
        have hf := blk_frozen H1.out k
        go_wp2
        go_roundw
        case rel => exact ⟨k + 1, by omega, rfl, ⟨(blk_set H1.out k _).trans (by rw [HST.out])⟩, ⟨HB.out.setCell (by show w.heap.size ≤ w1.heap.size; omega) _⟩⟩
        case measure => simp [intOf]; omega
      · have HST := Aside0.mk (sg_low x b k (by omega))
        go_wp2
        go_roundw
        case rel => exact ⟨k + 1, by omega, rfl, ⟨by rw [← HST.out]; exact H1.out⟩, ⟨HB.out⟩⟩
        case measure => simp [intOf]; omega
    · obtain rfl : k = 64 := by omega
      go_wp2_with (first | (refine wpList_load_row rfl 25 (.tmp 5) rfl w1.heap.size rfl 25 _ (0, 0) _ H1.out Try.underlying25 rfl (bl_info _) ?_))
      refine (Word_calls (W (sgTo x b 64)) (W_lt _) _).mono ?_
      rintro e w2 ⟨rfl, hb2⟩
      have HB2 := Aside0.mk hb2
      clear hb2
      go_wp2
      go_ret
      exact ⟨rfl, below_then HB.out HB.out.size HB2.out⟩
end Go.Proofs.Ytjkllkbdmkkndaa.Ref
