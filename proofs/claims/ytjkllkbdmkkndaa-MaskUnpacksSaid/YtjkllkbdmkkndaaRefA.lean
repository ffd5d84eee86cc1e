/- The contracts of the reference's functions over sets as arrays of sixty-four answers: an array is told as the word of its bits. -/
import Derived.Test.YtjkllkbdmkkndaaProg
import Derived.Below
import Derived.Deep.Draws
import Derived.Deep.AppendLies
import Derived.Maps.AppendAt
import Derived.OwnWalk
import Derived.Laws.BytesArg
import Derived.Laws.MakeOwn
import Derived.Laws.OwnMore
import Derived.Deep.OwnRows
import Derived.Tactics
import Derived.Lib.ConvBytes
import Derived.Laws.Slices
import Derived.WalkKit
import Derived.KernelRfl
import Derived.RowKit3
import Derived.Deep.LoopGhost
import Derived.Deep.QuietTactic
import Derived.BigQuiet
import Derived.WideLaws
import Derived.Deep.DeepCutAuto
import Derived.Deep.CutBlock
import Derived.Deep.RegionHeld3
import Derived.Laws.Rows
import Derived.Lib.AppendStr
import Derived.ArgAppend
import Derived.Laws.IdiomCopy
import Derived.OrdersHeld
import Derived.Laws.BitsLemmas
import Derived.RowKit
import Derived.Test.YtjkllkbdmkkndaaWWords
import Derived.Test.YtjkllkbdmkkndaaWLast
import Derived.Test.YtjkllkbdmkkndaaWTab
import Derived.Test.YtjkllkbdmkkndaaWFour
import Derived.Test.YtjkllkbdmkkndaaWQPut
import Derived.Test.YtjkllkbdmkkndaaWApart
import Derived.Test.YtjkllkbdmkkndaaWArr
import Derived.Test.YtjkllkbdmkkndaaWZeros
import Derived.Test.YtjkllkbdmkkndaaWFoot
import Derived.Test.YtjkllkbdmkkndaaWKept
import Derived.Test.YtjkllkbdmkkndaaWShare
import Derived.Test.YtjkllkbdmkkndaaWN
import Derived.Test.YtjkllkbdmkkndaaWFootNe
import Derived.Test.YtjkllkbdmkkndaaWAt
import Derived.Test.YtjkllkbdmkkndaaWEqStruct
import Derived.Test.YtjkllkbdmkkndaaWRepsOne
import Derived.Test.YtjkllkbdmkkndaaWInv
import Derived.Test.YtjkllkbdmkkndaaWInvWords
import Derived.Test.YtjkllkbdmkkndaaWGuard
import Derived.Test.YtjkllkbdmkkndaaWNEv
import Derived.Test.YtjkllkbdmkkndaaWMore
import Derived.Great.BuildSlice
import Derived.Great.Ranges
import Derived.Test.YtjkllkbdmkkndaaBits

namespace Go.Proofs.Ytjkllkbdmkkndaa.Ref
open Go Go.RowKit Go.Proofs.YtjkllkbdmkkndaaW.PrintWords Go.Proofs.YtjkllkbdmkkndaaW.PrintLast Go.Proofs.YtjkllkbdmkkndaaW.PrintMore Go.Proofs.Ytjkllkbdmkkndaa.Bits
set_option linter.unusedVariables false
theorem info3 : (Try.prog.info? 3).map (fun i => (i.zero, i.size, i.bytes)) = some (some (.int .i64 0), 1, 8) := by kernel_rfl
/-- A word's bits, as an array of sixty-four answers. -/
def bl (x : Nat) : Array Value := ((List.range 64).map fun i => Value.bool (x.testBit i)).toArray
theorem bl_size (x : Nat) : (bl x).size = 64 := by simp [bl]
theorem bl_get (x i : Nat) (h : i < 64) : (bl x)[i]? = some (.bool (x.testBit i)) := by simp [bl, h]
theorem bl_zero : bl 0 = #[.bool false, .bool false, .bool false, .bool false, .bool false, .bool false, .bool false, .bool false, .bool false, .bool false, .bool false, .bool false, .bool false, .bool false, .bool false, .bool false, .bool false, .bool false, .bool false, .bool false, .bool false, .bool false, .bool false, .bool false, .bool false, .bool false, .bool false, .bool false, .bool false, .bool false, .bool false, .bool false, .bool false, .bool false, .bool false, .bool false, .bool false, .bool false, .bool false, .bool false, .bool false, .bool false, .bool false, .bool false, .bool false, .bool false, .bool false, .bool false, .bool false, .bool false, .bool false, .bool false, .bool false, .bool false, .bool false, .bool false, .bool false, .bool false, .bool false, .bool false, .bool false, .bool false, .bool false, .bool false] := by rfl
theorem bl_ext {x y : Nat} (h : ∀ i, i < 64 → x.testBit i = y.testBit i) : bl x = bl y := by
  unfold bl; congr 1; exact List.map_congr_left (fun i hi => by rw [h i (List.mem_range.1 hi)])
theorem bl_none (x i : Nat) (h : ¬ i < 64) : (bl x)[i]? = none := by
  rw [Array.getElem?_eq_none]; rw [bl_size]; omega
theorem bl_set (x y k : Nat) (b : Bool) (hk : k < 64) (hb : y.testBit k = b) (h : ∀ i, i < 64 → i ≠ k → x.testBit i = y.testBit i) : (bl x).setIfInBounds k (.bool b) = bl y := by
  apply Array.ext_getElem?
  intro i
  rw [Array.getElem?_setIfInBounds]
  by_cases e : k = i
  · subst e; rw [if_pos rfl, if_pos (by rw [bl_size]; exact hk), bl_get y k hk, hb]
  · rw [if_neg e]
    by_cases hi : i < 64
    · rw [bl_get x i hi, bl_get y i hi, h i hi (fun he => e he.symm)]
    · rw [bl_none x i hi, bl_none y i hi]
/-- The value of such an array. -/
abbrev setV (x : Nat) : Value := .agg (bl x)
theorem bit_low {x k y : Nat} (hy : y = x / 2 ^ k) : ((y : Int) % 2 == 1) = x.testBit k := by
  subst hy
  rw [Nat.testBit_eq_decide_div_mod_eq, Bool.eq_iff_iff, beq_iff_eq, decide_eq_true_eq]; omega
theorem half {x k y : Nat} (hy : y = x / 2 ^ k) : y / 2 = x / 2 ^ (k + 1) := by
  subst hy; rw [Nat.pow_succ, ← Nat.div_div_eq_div_mul]
theorem From_step (x k : Nat) (hk : k < 64) : (bl (x % 2 ^ k)).setIfInBounds k (.bool (x.testBit k)) = bl (x % 2 ^ (k + 1)) :=
  bl_set _ _ k _ hk (by rw [Nat.testBit_mod_two_pow, decide_eq_true (Nat.lt_succ_self k), Bool.true_and]) (fun i _ hne => by
    rw [Nat.testBit_mod_two_pow, Nat.testBit_mod_two_pow]
    by_cases h : i < k
    · rw [decide_eq_true h, decide_eq_true (show i < k + 1 by omega)]
    · rw [decide_eq_false h, decide_eq_false (show ¬ i < k + 1 by omega)])
theorem below_setRow {w W : World} {g : Nat} (h : Below w.heap.size w W) (hg : w.heap.size ≤ g) (cs : Array Value) : Below w.heap.size w (W.setRow g cs) :=
  ⟨h.os, h.tape, h.output, by rw [size_setRow]; exact h.size, fun i hi => (setRow_other W g i cs (by omega)).trans (h.block i hi)⟩
theorem bl_info (x : Nat) : (Try.prog.info? 25).map (·.size) = some (bl x).size := by rw [bl_size]; kernel_rfl
theorem bl_one (x : Nat) : (bl x).all (·.oneCell') = true := by simp [bl, Value.oneCell']
set_option maxHeartbeats 400000 in
set_option maxRecDepth 100000 in
theorem From_calls (x : Nat) (hx : x < 2 ^ 64) (w : World) :
    Calls Try.prog 16 #[.int .u64 x] w fun e w' => e = .returned (setV x) ∧ Below w.heap.size w w' := by
  go_enter Try.func16, Try.ntmps16
  go_wp2
  go_loopw [0, 5] (fun v0 v5 wr => ∃ k y : Nat, k ≤ 64 ∧ y < 18446744073709551616 ∧ Aside0 (y = x / 2 ^ k) ∧ v0 = .int .u64 (y : Int) ∧ v5 = .int .i64 (k : Int) ∧ Aside0 (wr.heap[w.heap.size + 1]? = some (.cells (bl (x % 2 ^ k)) 25 (0, 0))) ∧ Aside0 (wr.heap[w.heap.size]? = some (.cells (bl 0) 25 (0, 0))) ∧ Aside0 (Below w.heap.size w wr)) (fun _ v5 _ => (64 - intOf v5).toNat)
  case atStart => exact ⟨0, x, by omega, by omega, ⟨by simp⟩, rfl, rfl, ⟨by rw [show x % 2 ^ 0 = 0 from Nat.mod_one x, bl_zero]; exact heap_alloc2_new w _ _⟩, ⟨by rw [bl_zero]; exact heap_alloc2_old w _ _⟩, ⟨(((Below.refl _ _).alloc (Nat.le_refl _) _).alloc (by simp) _)⟩⟩
  case round =>
    obtain ⟨k, y, hk, hy, HY, rfl, rfl, H1, H2, HB⟩ := hrel
    by_cases hlt : k < 64
    · have hc := (blk_cell H1.out k).trans (bl_get _ k hlt)
      have hf := blk_frozen H1.out k
      go_wp2
      go_roundw
      case rel => exact ⟨k + 1, y / 2, by omega, by omega, ⟨half HY.out⟩, by go_num, rfl, ⟨by rw [bit_low HY.out]; exact (blk_set H1.out k _).trans (by rw [From_step x k hlt])⟩, ⟨blk_far H2.out (by simp) _⟩, ⟨HB.out.setCell (by simp) _⟩⟩
      case measure => simp [intOf]; omega
    · obtain rfl : k = 64 := by omega
      go_wp2_with (first | (refine wpList_load_row rfl 25 (.tmp 3) rfl (w.heap.size + 1) rfl 25 _ (0, 0) _ H1.out Try.underlying25 rfl (bl_info _) ?_) | (refine wpList_store_rowTo rfl 25 (.tmp 2) (.tmp 16) rfl rfl w.heap.size (bl (x % 2 ^ 64)) rfl rfl 25 _ H2.out (bl_info _) (by rw [bl_size, bl_size]) (bl_one _) ?_))
      rw [show x % 2 ^ 64 = x from Nat.mod_eq_of_lt hx]
      exact bodyPost_ret (v := setV x) (results_cell_row (fn := Try.f16) rfl _ _ w.heap.size 25 (bl x) (0, 0) _ (by rfl) (setRow_heap _ _ _ _ _ _ H2.out) Try.underlying25 rfl (bl_info _)) rfl ⟨rfl, below_setRow HB.out (Nat.le_refl _) _⟩
theorem word_step {x k y : Nat} (hk : k < 64) (hy : y = x / 2 ^ (64 - k)) : 2 * y + (x.testBit (63 - k)).toNat = x / 2 ^ (64 - (k + 1)) := by
  subst hy
  rw [show 64 - (k + 1) = 63 - k from by omega, show 64 - k = (63 - k) + 1 from by omega, Nat.pow_succ, ← Nat.div_div_eq_div_mul, Nat.testBit_eq_decide_div_mod_eq]
  generalize x / 2 ^ (63 - k) = z
  by_cases h : z % 2 = 1
  · rw [decide_eq_true h]; simp; omega
  · rw [decide_eq_false h]; simp; omega
theorem word_lt {x k y : Nat} (hx : x < 2 ^ 64) (hk : k < 64) (hy : y = x / 2 ^ (64 - k)) : y < 9223372036854775808 := by
  subst hy
  have h1 : x / 2 ^ (64 - k) ≤ x / 2 ^ 1 := Nat.div_le_div_left (Nat.pow_le_pow_right (by decide) (by omega)) (by decide)
  omega
set_option maxHeartbeats 400000 in
set_option maxRecDepth 100000 in
theorem Word_calls (x : Nat) (hx : x < 2 ^ 64) (w : World) :
    Calls Try.prog 30 #[setV x] w fun e w' => e = .returned (.int .u64 x) ∧ Below w.heap.size w w' := by
  go_enter Try.func30, Try.ntmps30
  go_wp2_with (first | (refine wpList_boxTo rfl 25 (.tmp 0) rfl (some 1) rfl w.heap.size rfl (bl x) rfl ?_))
  go_loopw [3, 5] (fun v3 v5 wr => ∃ k y : Nat, k ≤ 64 ∧ y < 18446744073709551616 ∧ Aside0 (y = x / 2 ^ (64 - k)) ∧ v3 = .int .u64 (y : Int) ∧ v5 = .int .i64 (k : Int) ∧ Aside0 (wr.heap[w.heap.size]? = some (.cells (bl x) 25 (0, 0))) ∧ Aside0 (Below w.heap.size w wr)) (fun _ v5 _ => (64 - intOf v5).toNat)
  case atStart => exact ⟨0, 0, by omega, by omega, ⟨by rw [Nat.sub_zero, Nat.div_eq_of_lt hx]⟩, rfl, rfl, ⟨heap_alloc_new w _⟩, ⟨(Below.refl _ _).alloc (Nat.le_refl _) _⟩⟩
  case round =>
    obtain ⟨k, y, hk, hy, HY, rfl, rfl, H1, HB⟩ := hrel
    by_cases hlt : k < 64
    · have hy2 := word_lt hx hlt HY.out
      have HS := Aside0.mk (word_step hlt HY.out)
      obtain ⟨j, hj⟩ : ∃ j : Nat, j = 63 - k := ⟨_, rfl⟩
      have hji : (63 : Int) - (k : Int) = (j : Int) := by omega
      have hj64 : j < 64 := by omega
      have HJ := Aside0.mk hj
      clear hj
      cases hb : x.testBit j with
      | true =>
        have hc : wr.cell? ⟨w.heap.size, j, none⟩ = some (.bool true) := by rw [← hb]; exact (blk_cell H1.out j).trans (bl_get _ j hj64)
        have HB' := Aside0.mk hb
        clear hb
        go_wp2
        go_roundw
        case rel => exact ⟨k + 1, 2 * y + 1, by omega, by omega, ⟨by have h := HS.out; rw [← HJ.out, HB'.out] at h; exact h⟩, by go_num, rfl, ⟨H1.out⟩, ⟨HB.out⟩⟩
        case measure => simp [intOf]; omega
      | false =>
        have hc : wr.cell? ⟨w.heap.size, j, none⟩ = some (.bool false) := by rw [← hb]; exact (blk_cell H1.out j).trans (bl_get _ j hj64)
        have HB' := Aside0.mk hb
        clear hb
        go_wp2
        go_roundw
        case rel => exact ⟨k + 1, 2 * y, by omega, by omega, ⟨by have h := HS.out; rw [← HJ.out, HB'.out] at h; exact h⟩, by go_num, rfl, ⟨H1.out⟩, ⟨HB.out⟩⟩
        case measure => simp [intOf]; omega
    · obtain rfl : k = 64 := by omega
      have HX := Aside0.mk (show x = y from by rw [HY.out]; simp)
      go_wp2
      go_ret
      exact ⟨by rw [HX.out]; rfl, HB.out⟩
theorem sizeOf_one (w : World) : (sizeOf 4).run Try.prog w = .ok 1 w := by kernel_rfl
theorem index_bl (x i : Nat) (h : i < 64) (w : World) : (Instr.index 25 (.agg (bl x)) (.int .i64 (i : Int))).run Try.prog w = .ok (.bool (x.testBit i)) w := by
  have hi : ((0 : Int) ≤ (i : Int) ∧ (i : Int) < ((64 : Nat) : Int)) := by omega
  have hs := fun w => (sizeOf_one w)
  simp [Instr.index, run_underlying Try.underlying25, asIntOf, hi, hs, go_sem, bl_get x i h, h]
/-- The numbers below a place that a word has. -/
def bitsTo (x : Nat) : Nat → List Int
  | 0 => []
  | k + 1 => if x.testBit k = true then bitsTo x k ++ [(k : Int)] else bitsTo x k
theorem bitsTo_length (x : Nat) : ∀ k, (bitsTo x k).length = cnt x k
  | 0 => rfl
  | k + 1 => by
    have := bitsTo_length x k
    unfold bitsTo
    by_cases h : x.testBit k = true
    · rw [if_pos h, List.length_append, this]; simp [cnt, h]
    · rw [if_neg h, this]; simp [cnt, h]
set_option maxHeartbeats 800000 in
set_option maxRecDepth 100000 in
theorem All_calls (x : Nat) (w : World) :
    Calls Try.prog 41 #[setV x] w fun e w' => ∃ v0_ : Value, e = .returned v0_ ∧ Kd.R (Kd.int .i64) 3 w' w.heap.size (fun _ => True) v0_ (bitsTo x 64) ∧ Below w.heap.size w w' := by
  go_enter Try.func41, Try.ntmps41
  have H0 : ((w.alloc (.cells (bl x) 25))).heap[w.heap.size]? = some (.cells (bl x) 25 (0, 0)) := heap_alloc_new w _
  have H0' := Aside0.mk H0
  clear H0
  go_wp2_with (first | (refine wpList_load_row rfl 25 (.tmp 1) rfl w.heap.size rfl 25 _ (0, 0) _ H0'.out Try.underlying25 rfl (bl_info _) ?_))
  go_loopw [3, 7] (fun v3 v7 wr => ∃ k : Nat, k ≤ 64 ∧ v7 = .int .i64 (k : Int) ∧ Aside0 (Kd.R (Kd.int .i64) 3 wr w.heap.size (fun _ => True) v3 (bitsTo x k)) ∧ Aside0 (Below w.heap.size w wr)) (fun _ v7 _ => (64 - intOf v7).toNat)
  case atStart => exact ⟨0, by omega, rfl, ⟨Kd.R_nil _ _ _ _ _⟩, ⟨(Below.refl _ _).alloc (Nat.le_refl _) _⟩⟩
  case round =>
    obtain ⟨k, hk, rfl, HO, HB⟩ := hrel
    by_cases hlt : k < 64
    · have hix := fun W => index_bl x k hlt W
      have hlen : (bitsTo x k).length ≤ k := by rw [bitsTo_length]; exact cnt_le x k
      cases hb : x.testBit k with
      | true =>
        rw [hb] at hix
        have HN := Aside0.mk (show bitsTo x (k + 1) = bitsTo x k ++ [(k : Int)] by simp [bitsTo, hb])
        clear hb
        go_wp2_with (first | ((with_reducible refine gate_builtin (b := .append) (xs := #[.tmp 12, .tmp 14]) rfl ?_); at_builtin; refine Kd.R_append (Kd.int .i64) (w0 := w) w.heap.size rfl (.tmp 12) (.tmp 14) 47 3 (.int .i64 0) 8 rfl Try.underlying47 info3 rfl (by decide) (by omega) u3 (bitsTo x k) (k : Int) [.int .i64 (k : Int)] (fun _ => True) (fun _ => False) rfl rfl ?aP (fun _ hk => hk.elim) ?aF ?aO ?aB ?aS ?aL ?_; (case aP => exact rfl); (case aB => exact (by repeat (first | (with_reducible first | exact HB.out | apply below_alloc | apply pw_below_drewN | apply below_drew1) | exact HB.out))); (case aF => exact (fun _ _ => trivial)); (case aO => exact (by (with_reducible repeat (first | apply Kd.R_alloc | apply Kd.R_drewN | apply Kd.R_drew)); exact HO.out)); (case aS => exact (below_size (by repeat (first | (with_reducible first | exact HB.out | apply below_alloc | apply pw_below_drewN | apply below_drew1) | exact HB.out)))); (case aL => omega); intro v136 w5 ho hb hg hat; rw [← HN.out] at ho; have n0_ := Aside0.mk (hb); have n1_ := Aside0.mk (ho); clear HB; clear HO; have HB := n0_; have HO := n1_; clear n0_ n1_; clear ho hb hg hat))
        go_roundw
        case rel => exact ⟨k + 1, by omega, rfl, ⟨by (with_reducible repeat (first | apply Kd.R_alloc | apply Kd.R_drewN | apply Kd.R_drew)); exact HO.out⟩, ⟨by repeat (first | (with_reducible first | exact HB.out | apply below_alloc | apply pw_below_drewN | apply below_drew1) | exact HB.out)⟩⟩
        case measure => simp [intOf]; omega
      | false =>
        rw [hb] at hix
        have HN := Aside0.mk (show bitsTo x (k + 1) = bitsTo x k by simp [bitsTo, hb])
        clear hb
        go_wp2
        go_roundw
        case rel => exact ⟨k + 1, by omega, rfl, ⟨by rw [HN.out]; exact HO.out⟩, ⟨HB.out⟩⟩
        case measure => simp [intOf]; omega
    · obtain rfl : k = 64 := by omega
      go_wp2
      go_ret
      exact ⟨_, rfl, HO.out, HB.out⟩
end Go.Proofs.Ytjkllkbdmkkndaa.Ref
