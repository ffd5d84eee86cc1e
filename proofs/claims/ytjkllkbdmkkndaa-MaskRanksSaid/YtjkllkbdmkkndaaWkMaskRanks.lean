/- The law MaskRanks, walked: how many of any set are below any number, and which one has so many below it; for every word and number. -/
import Derived.Test.YtjkllkbdmkkndaaPMaskRanksx
import Derived.Test.YtjkllkbdmkkndaaPlainC
namespace Go.Proofs.Ytjkllkbdmkkndaa.Wk
open Go Go.RowKit Go.Proofs.YtjkllkbdmkkndaaW.PrintWords Go.Proofs.YtjkllkbdmkkndaaW.PrintLast Go.Proofs.YtjkllkbdmkkndaaW.PrintMore Go.Proofs.Ytjkllkbdmkkndaa.Bits Go.Proofs.Ytjkllkbdmkkndaa.Ref Go.Proofs.Ytjkllkbdmkkndaa.PMaskRanks
set_option linter.unusedVariables false
set_option linter.unusedSimpArgs false
theorem len_t (x : Nat) (hx : x < 2 ^ 64) : mask_Set_Len.f (x : Int) = some (cnt x 64 : Int) := congrArg some (lenI_eq x hx)
theorem below_t (n : Nat) (hn : n < 64) : mask_below.f (n : Int) = some ((2 ^ n - 1 : Nat) : Int) := by
  unfold mask_below.f
  by_cases h : (n : Int) ≤ 0
  · obtain rfl : n = 0 := by omega
    rfl
  · rw [if_neg h, if_neg (by omega), if_pos (by omega)]
    unfold shl
    rw [Int.toNat_natCast, show IntKind.u64.bits = 64 from rfl, Nat.min_eq_left (by omega)]
    have hp : 2 ^ n < 2 ^ 64 := Nat.pow_lt_pow_right (by decide) hn
    have hq : 0 < 2 ^ n := Nat.two_pow_pos n
    rw [show (1 : Int) * 2 ^ n = ((2 ^ n : Nat) : Int) from by push_cast; omega, wrap_nat, Nat.mod_eq_of_lt hp, show ((2 ^ n : Nat) : Int) - 1 = ((2 ^ n - 1 : Nat) : Int) from by omega, wrap_nat, Nat.mod_eq_of_lt (by omega)]
theorem below_none (n : Int) (hn : n ≤ 0) : mask_below.f n = some 0 := by unfold mask_below.f; rw [if_pos hn]
theorem below_all (n : Int) (hn : 64 ≤ n) : mask_below.f n = some ((2 ^ 64 - 1 : Nat) : Int) := by unfold mask_below.f; rw [if_neg (by omega), if_pos (by omega)]; rfl
theorem rank_t (x : Nat) (hx : x < 2 ^ 64) (n : Int) : mask_Set_Rank.f (x : Int) n = some (cnt x (min n.toNat 64) : Int) := by
  unfold mask_Set_Rank.f
  have key : ∀ j, j ≤ 64 → mask_below.f n = some ((2 ^ j - 1 : Nat) : Int) → (mask_below.f n).bind (fun t => (mask_Set_Len.f (Go.bits .and .u64 (x : Int) t)).bind fun u => some u) = some (cnt x j : Int) := by
    intro j hj h
    have hp : 2 ^ j ≤ 2 ^ 64 := Nat.pow_le_pow_right (by decide) hj
    have hq : 0 < 2 ^ j := Nat.two_pow_pos j
    rw [h, Option.bind_some, and_u64 x _ hx (by omega), Nat.and_two_pow_sub_one_eq_mod, len_t _ (Nat.lt_of_lt_of_le (Nat.mod_lt _ hq) hp), cnt_mod_above x j 64 hj]
    rfl
  by_cases h0 : n ≤ 0
  · rw [show min n.toNat 64 = 0 from by omega]
    exact key 0 (by omega) (below_none n h0)
  · by_cases h1 : 64 ≤ n
    · rw [show min n.toNat 64 = 64 from by omega]
      exact key 64 (by omega) (below_all n h1)
    · obtain ⟨m, rfl⟩ := Int.eq_ofNat_of_zero_le (show 0 ≤ n by omega)
      rw [show min ((m : Int).toNat) 64 = m from by omega]
      exact key m (by omega) (below_t m (by omega))
theorem shr_t (x n : Nat) (hn : n ≤ 64) : shr .u64 (x : Int) (n : Int) = ((x / 2 ^ n : Nat) : Int) := by
  unfold shr
  rw [Int.toNat_natCast, show IntKind.u64.bits = 64 from rfl, Nat.min_eq_left hn]
  push_cast; rfl
theorem at_loop (x : Nat) (hx : x < 2 ^ 64) : ∀ e n i : Nat, n + 2 ^ (e + 1) ≤ 64 → cnt x n + i < cnt x (n + 2 ^ (e + 1)) → ∀ k, e + 1 < k →
    ∃ p : Nat, mask_Set_At.l0 k (x : Int) (i : Int) (n : Int) ((2 ^ e : Nat) : Int) = some (p : Int) ∧ x.testBit p = true ∧ cnt x p = cnt x n + i ∧ p < 64 := by
  intro e
  induction e with
  | zero =>
    intro n i hn hi k hk
    obtain ⟨k, rfl⟩ : ∃ m, k = m + 2 := ⟨k - 2, by omega⟩
    have hd : x / 2 ^ n < 2 ^ 64 := Nat.lt_of_le_of_lt (Nat.div_le_self _ _) hx
    have hl : cnt (x / 2 ^ n % 2 ^ 1) 64 = (x.testBit n).toNat := by
      rw [cnt_mod_above _ 1 64 (by omega)]; simp only [cnt]
      rw [← Nat.shiftRight_eq_div_pow, Nat.testBit_shiftRight]; simp
    have h2 : cnt x (n + 2 ^ (0 + 1)) = cnt x n + (x.testBit n).toNat + (x.testBit (n + 1)).toNat := rfl
    rw [h2] at hi
    simp only [mask_Set_At.l0]
    rw [show ((2 ^ 0 : Nat) : Int) = 1 from rfl, if_pos (by decide), if_pos (by omega), show (1 : Int) = ((1 : Nat) : Int) from rfl, below_t 1 (by omega), Option.bind_some, shr_t x n (by omega), and_u64 _ _ hd (by decide), Nat.and_two_pow_sub_one_eq_mod, len_t _ (by omega), hl, Option.bind_some]
    have e0 : ((1 : Nat) : Int) / 2 = 0 := by decide
    rw [e0, if_neg (show ¬ ((0 : Int) > 0) by decide), if_neg (show ¬ ((0 : Int) > 0) by decide)]
    by_cases hb : x.testBit n = true
    · rw [hb] at hi; rw [hb]
      by_cases h1 : i = 0
      · subst h1
        rw [if_neg (by simp)]
        exact ⟨n, rfl, hb, by omega, by omega⟩
      · have hb2 : x.testBit (n + 1) = true := by
          cases hc : x.testBit (n + 1) with
          | true => rfl
          | false => rw [hc] at hi; simp at hi; omega
        have h3 : i = 1 := by rw [hb2] at hi; simp at hi; omega
        subst h3
        rw [if_pos (by simp)]
        refine ⟨n + 1, ?_, hb2, by simp [cnt, hb], by omega⟩
        rw [show wrap64 ((n : Int) + ((1 : Nat) : Int)) = ((n + 1 : Nat) : Int) from by unfold wrap64; omega]
    · have hb' : x.testBit n = false := by simpa using hb
      rw [hb'] at hi; rw [hb']
      have hb2 : x.testBit (n + 1) = true := by
        cases hc : x.testBit (n + 1) with
        | true => rfl
        | false => rw [hc] at hi; simp at hi; omega
      have h3 : i = 0 := by rw [hb2] at hi; simp at hi; omega
      subst h3
      rw [if_pos (by simp)]
      refine ⟨n + 1, ?_, hb2, by simp [cnt, hb'], by omega⟩
      rw [show wrap64 ((n : Int) + ((1 : Nat) : Int)) = ((n + 1 : Nat) : Int) from by unfold wrap64; omega]
  | succ e ih =>
    intro n i hn hi k hk
    obtain ⟨k, rfl⟩ : ∃ m, k = m + 1 := ⟨k - 1, by omega⟩
    have hpow : 2 ^ (e + 1 + 1) = 2 ^ (e + 1) + 2 ^ (e + 1) := by rw [Nat.pow_succ]; omega
    have hpow1 : 2 ^ (e + 1) = 2 ^ e + 2 ^ e := by rw [Nat.pow_succ]; omega
    have hpos : 0 < 2 ^ e := Nat.two_pow_pos e
    have hd : x / 2 ^ n < 2 ^ 64 := Nat.lt_of_le_of_lt (Nat.div_le_self _ _) hx
    have hs : 2 ^ (e + 1) < 64 := by omega
    have hp : 2 ^ 2 ^ (e + 1) < 2 ^ 64 := Nat.pow_lt_pow_right (by decide) hs
    have hq : 0 < 2 ^ 2 ^ (e + 1) := Nat.two_pow_pos _
    have hl : cnt (x / 2 ^ n % 2 ^ 2 ^ (e + 1)) 64 = cnt (x / 2 ^ n) (2 ^ (e + 1)) := cnt_mod_above _ _ 64 (by omega)
    have ha : cnt x (n + 2 ^ (e + 1)) = cnt x n + cnt (x / 2 ^ n) (2 ^ (e + 1)) := cnt_add _ _ _
    have hc := cnt_le (x / 2 ^ n) (2 ^ (e + 1))
    simp only [mask_Set_At.l0]
    rw [if_pos (by omega), if_pos (by omega), below_t _ hs, Option.bind_some, shr_t x n (by omega), and_u64 _ _ hd (by omega), Nat.and_two_pow_sub_one_eq_mod, len_t _ (Nat.lt_of_lt_of_le (Nat.mod_lt _ hq) (by omega)), hl, Option.bind_some]
    have e0 : ((2 ^ (e + 1) : Nat) : Int) / 2 = ((2 ^ e : Nat) : Int) := by omega
    rw [e0]
    by_cases hge : (i : Int) ≥ (cnt (x / 2 ^ n) (2 ^ (e + 1)) : Int)
    · rw [if_pos hge]
      rw [show wrap64 ((i : Int) - (cnt (x / 2 ^ n) (2 ^ (e + 1)) : Int)) = ((i - cnt (x / 2 ^ n) (2 ^ (e + 1)) : Nat) : Int) from by
        have h64 := cnt_le x (n + 2 ^ (e + 1 + 1))
        unfold wrap64; omega, show wrap64 ((n : Int) + ((2 ^ (e + 1) : Nat) : Int)) = ((n + 2 ^ (e + 1) : Nat) : Int) from by unfold wrap64; omega]
      obtain ⟨p, h1, h2, h3, h4⟩ := ih (n + 2 ^ (e + 1)) (i - cnt (x / 2 ^ n) (2 ^ (e + 1))) (by omega) (by rw [show n + 2 ^ (e + 1) + 2 ^ (e + 1) = n + 2 ^ (e + 1 + 1) from by omega]; omega) k (by omega)
      exact ⟨p, h1, h2, by omega, h4⟩
    · rw [if_neg hge]
      obtain ⟨p, h1, h2, h3, h4⟩ := ih n i (by omega) (by omega) k (by omega)
      exact ⟨p, h1, h2, h3, h4⟩
theorem at_none (x : Nat) (hx : x < 2 ^ 64) (i : Int) (h : i < 0 ∨ (cnt x 64 : Int) ≤ i) (k : Nat) (hk : 0 < k) : mask_Set_At.f k (x : Int) i = some (-1) := by
  obtain ⟨k, rfl⟩ : ∃ m, k = m + 1 := ⟨k - 1, by omega⟩
  unfold mask_Set_At.f
  by_cases h0 : i < 0
  · rw [if_pos h0]; simp [mask_Set_At.j0]
  · rw [if_neg h0, len_t x hx, Option.bind_some, decide_eq_true (show i ≥ (cnt x 64 : Int) by omega)]; simp [mask_Set_At.j0]
theorem at_some (x : Nat) (hx : x < 2 ^ 64) (i : Nat) (h : i < cnt x 64) (k : Nat) (hk : 8 < k) :
    ∃ p : Nat, mask_Set_At.f k (x : Int) (i : Int) = some (p : Int) ∧ x.testBit p = true ∧ cnt x p = i ∧ p < 64 := by
  obtain ⟨k, rfl⟩ : ∃ m, k = m + 1 := ⟨k - 1, by omega⟩
  obtain ⟨p, h1, h2, h3, h4⟩ := at_loop x hx 5 0 i (by decide) (by simpa [cnt] using h) k (by omega)
  refine ⟨p, ?_, h2, by simpa [cnt] using h3, h4⟩
  unfold mask_Set_At.f
  rw [if_neg (by omega), len_t x hx, Option.bind_some, decide_eq_false (show ¬ ((i : Int) ≥ (cnt x 64 : Int)) by omega)]
  simp only [mask_Set_At.j0]
  rw [if_neg (by decide)]
  exact h1
theorem awake_t : towlinelaw02_awake.f 20 = some true := by decide +kernel
theorem at_t (x : Nat) (hx : x < 2 ^ 64) (i : Int) : mask_Set_At.f 20 (x : Int) i = some (atOf x i) := by
  unfold atOf
  by_cases h0 : i < 0
  · rw [if_pos h0]; exact at_none x hx i (.inl h0) 20 (by decide)
  · rw [if_neg h0]
    by_cases h1 : (cnt x 64 : Int) ≤ i
    · rw [if_pos h1]; exact at_none x hx i (.inr h1) 20 (by decide)
    · rw [if_neg h1]
      obtain ⟨j, rfl⟩ := Int.eq_ofNat_of_zero_le (show 0 ≤ i by omega)
      obtain ⟨p, h2, h3, h4, h5⟩ := at_some x hx j (by omega) 20 (by decide)
      obtain ⟨p', h6, h7, h8, h9⟩ := bitsTo_rd x 64 j (by omega)
      obtain rfl := cnt_inj x h3 h7 (by omega)
      rw [h2, h6]
set_option maxHeartbeats 2000000 in
set_option maxRecDepth 100000 in
theorem MaskRanks (a0 a1 : Int) (w : World) (w0 : (Lit.int .u64 a0).wf = true) (w1 : (Lit.int .i64 a1).wf = true) :
    Calls Try.prog 3 #[.int .u64 a0, .int .i64 a1] w fun e w' => e = .returned (.bool true) ∧ Below w.heap.size w w' := by
  have ha := wf_u64 w0
  clear w0 w1
  obtain ⟨x, rfl⟩ := Int.eq_ofNat_of_zero_le ha.1
  have HX := Aside0.mk (show x < 2 ^ 64 by omega)
  clear ha
  have HRK := Aside0.mk (rank_t x HX.out a1)
  have HRR := Aside0.mk (fun W => Rank_calls x a1 W)
  have HAT := Aside0.mk (at_t x HX.out a1)
  have HAR := Aside0.mk (fun W => At_calls x a1 W)
  generalize (cnt x (min a1.toNat 64) : Int) = rk at *
  generalize atOf x a1 = at_ at *
  go_enter Try.func3, Try.ntmps3
  go_wp2_with (fail)
  refine (From_calls x HX.out _).mono ?_
  rintro e w1 ⟨rfl, hb⟩
  have HB := Aside0.mk hb
  have hz := hb.size
  clear hb
  have HS0 := Aside0.mk (heap_alloc_new w1 (.cells (bl 0) 25))
  have HS := Aside0.mk (setRow_heap (w1.alloc (.cells (bl 0) 25)) w1.heap.size (bl 0) (bl x) 25 (0, 0) (heap_alloc_new w1 _))
  have HBB := Aside0.mk (below_setRow (HB.out.alloc hz (.cells (bl 0) 25)) hz (bl x))
  rw [bl_zero] at HS0 HS HBB
  go_wp2_with (first | (refine wpList_store_rowTo rfl 25 (.tmp 6) (.tmp 9) rfl rfl w1.heap.size (bl x) rfl rfl 25 _ HS0.out (bl_info _) (by rw [bl_size]; rfl) (bl_one _) ?_))
  clear HB HS0
  have HB := HBB
  clear HBB
  refine start_ (n := 20) (S := fun w' => w'.heap[w1.heap.size]? = some (.cells (bl x) 25 (0, 0))) (ds := []) #[false, false, false, false, false, false, false, false, false, false, false, false, false, false, false, false, false, false, false, false] (by kernel_rfl) rfl rfl (blk_drew HS.out) (fun hHeld => ?_)
  refine pure_ (i := 0) (N := some 10) (v := ?_) (a' := ?_) #[true, false, false, false, false, false, false, false, false, false, false, false, false, false, false, false, false, false, false, false] rfl rfl (by kernel_rfl) (fun _ _ _ h => h) (Or.inl ⟨by rfl, ?_⟩) ?_ ?_
  rotate_left
  · intro w'
    go_simp
    with_reducible rfl
  rotate_left
  · simp only [Act.put, List.setIfInBounds_toArray, List.set_cons_zero, List.set_cons_succ]
    rfl
  refine pure_ (i := 1) (N := some 11) (v := ?_) (a' := ?_) #[true, true, false, false, false, false, false, false, false, false, false, false, false, false, false, false, false, false, false, false] rfl rfl (by kernel_rfl) (fun _ _ _ h => h) (Or.inl ⟨by rfl, ?_⟩) ?_ ?_
  rotate_left
  · intro w'
    go_simp
    with_reducible rfl
  rotate_left
  · simp only [Act.put, List.setIfInBounds_toArray, List.set_cons_zero, List.set_cons_succ]
    rfl
  refine pure_ (i := 4) (N := some 14) (v := ?_) (a' := ?_) #[true, true, false, false, true, false, false, false, false, false, false, false, false, false, false, false, false, false, false, false] rfl rfl (by kernel_rfl) (fun _ _ _ h => h) (Or.inl ⟨by rfl, ?_⟩) ?_ ?_
  rotate_left
  · intro w'
    go_simp
    with_reducible rfl
  rotate_left
  · simp only [Act.put, List.setIfInBounds_toArray, List.set_cons_zero, List.set_cons_succ]
    rfl
  refine take_ (i := 3) (N := some 13) (v := ?_) (a' := ?_) #[true, true, false, true, true, false, false, false, false, false, false, false, false, false, false, false, false, false, false, false] rfl rfl (by kernel_rfl) (fun _ _ _ h => h) (Or.inl ⟨by rfl, ?_⟩) hHeld ?_ ?_
  rotate_left
  · intro w' s0
    refine exec_load_row 25 (.tmp 6) ?_ w1.heap.size ?_ 25 _ (0, 0) _ s0 Try.underlying25 rfl (bl_info _)
    · rfl
    · rfl
  rotate_left
  · simp only [Act.put, List.setIfInBounds_toArray, List.set_cons_zero, List.set_cons_succ]
    rfl
  refine one_ (i := 2) (N := some 12) #[true, true, true, true, true, false, false, false, false, false, false, false, false, false, false, false, false, false, false, false] rfl rfl (by kernel_rfl) (by decide) (fun K hK => ?_)
  refine goes_ Try.func17 (by kernel_rfl) rfl #[.int .u64 x, .int .i64 a1] (by rfl) rfl rfl (by first | rfl | (simp; done) | (simp only [List.map_toArray, List.map_cons, List.map_nil]; rfl)) ?_
  with_reducible refine (mask_Set_Rank.calls _ _ _ _ HRK.out).mono ?_
  rintro e w3 ⟨rfl, ⟨nd, rfl⟩⟩
  refine ⟨_, rfl, ?_⟩
  refine hK.out _ _ (blk_drewN hHeld nd) (fun hHeld => ?_)
  clear hK K
  refine norm_ (a' := ?_) ?_ ?_
  rotate_left
  · show Act.put _ (some 12) _ = _
    simp only [Act.put, List.setIfInBounds_toArray, List.set_cons_zero, List.set_cons_succ]
    rfl
  refine one_ (i := 5) (N := some 15) #[true, true, true, true, true, true, false, false, false, false, false, false, false, false, false, false, false, false, false, false] rfl rfl (by kernel_rfl) (by decide) (fun K hK => ?_)
  refine goes_ Try.func18 (by kernel_rfl) rfl #[setV x, .int .i64 a1] (by rfl) rfl rfl (by first | rfl | (simp; done) | (simp only [List.map_toArray, List.map_cons, List.map_nil]; rfl)) ?_
  with_reducible refine (HRR.out _).mono ?_
  rintro e w3 ⟨rfl, hb⟩
  refine ⟨_, rfl, ?_⟩
  have n0_ := Aside0.mk (below_step (by repeat (first | (with_reducible first | exact HB.out | apply below_alloc | apply pw_below_drewN | apply below_drew1) | exact HB.out)) hb)
  clear HB
  have HB := n0_
  clear n0_
  refine hK.out _ _ (blk_below hHeld hb) (fun hHeld => ?_)
  clear hK K
  refine norm_ (a' := ?_) ?_ ?_
  rotate_left
  · show Act.put _ (some 15) _ = _
    simp only [Act.put, List.setIfInBounds_toArray, List.set_cons_zero, List.set_cons_succ]
    rfl
  refine pure_ (i := 6) (N := some 16) (v := ?_) (a' := ?_) #[true, true, true, true, true, true, true, false, false, false, false, false, false, false, false, false, false, false, false, false] rfl rfl (by kernel_rfl) (fun _ _ _ h => h) (Or.inl ⟨by rfl, ?_⟩) ?_ ?_
  rotate_left
  · intro w'
    go_simp
    with_reducible rfl
  rotate_left
  · simp only [Act.put, List.setIfInBounds_toArray, List.set_cons_zero, List.set_cons_succ]
    rfl
  refine pure_ (i := 7) (N := some 17) (v := ?_) (a' := ?_) #[true, true, true, true, true, true, true, true, false, false, false, false, false, false, false, false, false, false, false, false] rfl rfl (by kernel_rfl) (fun _ _ _ h => h) (Or.inl ⟨by rfl, ?_⟩) ?_ ?_
  rotate_left
  · intro w'
    go_simp
    with_reducible rfl
  rotate_left
  · simp only [Act.put, List.setIfInBounds_toArray, List.set_cons_zero, List.set_cons_succ]
    rfl
  refine pure_ (i := 8) (N := some 18) (v := ?_) (a' := ?_) #[true, true, true, true, true, true, true, true, true, false, false, false, false, false, false, false, false, false, false, false] rfl rfl (by kernel_rfl) (fun _ _ _ h => h) (Or.inl ⟨by rfl, ?_⟩) ?_ ?_
  rotate_left
  · intro w'
    go_simp
    with_reducible rfl
  rotate_left
  · simp only [Act.put, List.setIfInBounds_toArray, List.set_cons_zero, List.set_cons_succ]
    rfl
  refine pure_ (i := 9) (N := some 19) (v := ?_) (a' := ?_) #[true, true, true, true, true, true, true, true, true, true, false, false, false, false, false, false, false, false, false, false] rfl rfl (by kernel_rfl) (fun _ _ _ h => h) (Or.inl ⟨by rfl, ?_⟩) ?_ ?_
  rotate_left
  · intro w'
    go_simp
    with_reducible rfl
  rotate_left
  · simp only [Act.put, List.setIfInBounds_toArray, List.set_cons_zero, List.set_cons_succ]
    rfl
  refine pure_ (i := 12) (N := some 22) (v := ?_) (a' := ?_) #[true, true, true, true, true, true, true, true, true, true, false, false, true, false, false, false, false, false, false, false] rfl rfl (by kernel_rfl) (fun _ _ _ h => h) (Or.inl ⟨by rfl, ?_⟩) ?_ ?_
  rotate_left
  · intro w'
    go_simp
    with_reducible rfl
  rotate_left
  · simp only [Act.put, List.setIfInBounds_toArray, List.set_cons_zero, List.set_cons_succ]
    rfl
  refine take_ (i := 11) (N := some 21) (v := ?_) (a' := ?_) #[true, true, true, true, true, true, true, true, true, true, false, true, true, false, false, false, false, false, false, false] rfl rfl (by kernel_rfl) (fun _ _ _ h => h) (Or.inl ⟨by rfl, ?_⟩) hHeld ?_ ?_
  rotate_left
  · intro w' s0
    refine exec_load_row 25 (.tmp 6) ?_ w1.heap.size ?_ 25 _ (0, 0) _ s0 Try.underlying25 rfl (bl_info _)
    · rfl
    · rfl
  rotate_left
  · simp only [Act.put, List.setIfInBounds_toArray, List.set_cons_zero, List.set_cons_succ]
    rfl
  refine one_ (i := 10) (N := some 20) #[true, true, true, true, true, true, true, true, true, true, true, true, true, false, false, false, false, false, false, false] rfl rfl (by kernel_rfl) (by decide) (fun K hK => ?_)
  refine goes_ Try.func19 (by kernel_rfl) rfl #[.int .u64 x, .int .i64 a1] (by rfl) rfl rfl (by first | rfl | (simp; done) | (simp only [List.map_toArray, List.map_cons, List.map_nil]; rfl)) ?_
  with_reducible refine (mask_Set_At.calls 20 _ _ _ _ HAT.out).mono ?_
  rintro e w3 ⟨rfl, ⟨nd, rfl⟩⟩
  refine ⟨_, rfl, ?_⟩
  refine hK.out _ _ (blk_drewN hHeld nd) (fun hHeld => ?_)
  clear hK K
  refine norm_ (a' := ?_) ?_ ?_
  rotate_left
  · show Act.put _ (some 20) _ = _
    simp only [Act.put, List.setIfInBounds_toArray, List.set_cons_zero, List.set_cons_succ]
    rfl
  refine one_ (i := 13) (N := some 23) #[true, true, true, true, true, true, true, true, true, true, true, true, true, true, false, false, false, false, false, false] rfl rfl (by kernel_rfl) (by decide) (fun K hK => ?_)
  refine goes_ Try.func20 (by kernel_rfl) rfl #[setV x, .int .i64 a1] (by rfl) rfl rfl (by first | rfl | (simp; done) | (simp only [List.map_toArray, List.map_cons, List.map_nil]; rfl)) ?_
  with_reducible refine (HAR.out _).mono ?_
  rintro e w3 ⟨rfl, hb⟩
  refine ⟨_, rfl, ?_⟩
  have n0_ := Aside0.mk (below_step (by repeat (first | (with_reducible first | exact HB.out | apply below_alloc | apply pw_below_drewN | apply below_drew1) | exact HB.out)) hb)
  clear HB
  have HB := n0_
  clear n0_
  refine hK.out _ _ (blk_below hHeld hb) (fun hHeld => ?_)
  clear hK K
  refine norm_ (a' := ?_) ?_ ?_
  rotate_left
  · show Act.put _ (some 23) _ = _
    simp only [Act.put, List.setIfInBounds_toArray, List.set_cons_zero, List.set_cons_succ]
    rfl
  refine pure_ (i := 14) (N := some 24) (v := ?_) (a' := ?_) #[true, true, true, true, true, true, true, true, true, true, true, true, true, true, true, false, false, false, false, false] rfl rfl (by kernel_rfl) (fun _ _ _ h => h) (Or.inl ⟨by rfl, ?_⟩) ?_ ?_
  rotate_left
  · intro w'
    go_simp
    with_reducible rfl
  rotate_left
  · simp only [Act.put, List.setIfInBounds_toArray, List.set_cons_zero, List.set_cons_succ]
    rfl
  refine pure_ (i := 15) (N := some 25) (v := ?_) (a' := ?_) #[true, true, true, true, true, true, true, true, true, true, true, true, true, true, true, true, false, false, false, false] rfl rfl (by kernel_rfl) (fun _ _ _ h => h) (Or.inl ⟨by rfl, ?_⟩) ?_ ?_
  rotate_left
  · intro w'
    go_simp
    with_reducible rfl
  rotate_left
  · simp only [Act.put, List.setIfInBounds_toArray, List.set_cons_zero, List.set_cons_succ]
    rfl
  refine pure_ (i := 16) (N := some 26) (v := ?_) (a' := ?_) #[true, true, true, true, true, true, true, true, true, true, true, true, true, true, true, true, true, false, false, false] rfl rfl (by kernel_rfl) (fun _ _ _ h => h) (Or.inl ⟨by rfl, ?_⟩) ?_ ?_
  rotate_left
  · intro w'
    go_simp
    with_reducible rfl
  rotate_left
  · simp only [Act.put, List.setIfInBounds_toArray, List.set_cons_zero, List.set_cons_succ]
    rfl
  refine one_ (i := 17) (N := some 27) #[true, true, true, true, true, true, true, true, true, true, true, true, true, true, true, true, true, true, false, false] rfl rfl (by kernel_rfl) (by decide) (fun K hK => ?_)
  refine goes_ Try.func21 (by kernel_rfl) rfl #[] (by rfl) rfl rfl (by first | rfl | (simp; done) | (simp only [List.map_toArray, List.map_cons, List.map_nil]; rfl)) ?_
  with_reducible refine (towlinelaw02_awake.calls 20 true _ awake_t).mono ?_
  rintro e w3 ⟨rfl, hb⟩
  refine ⟨_, rfl, ?_⟩
  have n0_ := Aside0.mk (below_step (by repeat (first | (with_reducible first | exact HB.out | apply below_alloc | apply pw_below_drewN | apply below_drew1) | exact HB.out)) hb)
  clear HB
  have HB := n0_
  clear n0_
  refine hK.out _ _ (blk_below hHeld hb) (fun hHeld => ?_)
  clear hK K
  refine norm_ (a' := ?_) ?_ ?_
  rotate_left
  · show Act.put _ (some 27) _ = _
    simp only [Act.put, List.setIfInBounds_toArray, List.set_cons_zero, List.set_cons_succ]
    rfl
  refine pure_ (i := 18) (N := some 28) (v := ?_) (a' := ?_) #[true, true, true, true, true, true, true, true, true, true, true, true, true, true, true, true, true, true, true, false] rfl rfl (by kernel_rfl) (fun _ _ _ h => h) (Or.inl ⟨by rfl, ?_⟩) ?_ ?_
  rotate_left
  · intro w'
    go_simp
    with_reducible rfl
  rotate_left
  · simp only [Act.put, List.setIfInBounds_toArray, List.set_cons_zero, List.set_cons_succ]
    rfl
  refine pure_ (i := 19) (N := some 4) (v := ?_) (a' := ?_) #[true, true, true, true, true, true, true, true, true, true, true, true, true, true, true, true, true, true, true, true] rfl rfl (by kernel_rfl) (fun _ _ _ h => h) (Or.inl ⟨by rfl, ?_⟩) ?_ ?_
  rotate_left
  · intro w'
    go_simp
    with_reducible rfl
  rotate_left
  · simp only [Act.put, List.setIfInBounds_toArray, List.set_cons_zero, List.set_cons_succ]
    rfl
  refine done_ (by kernel_rfl) ?_

  go_wp2
  go_ret
  exact ⟨rfl, HB.out⟩
end Go.Proofs.Ytjkllkbdmkkndaa.Wk
