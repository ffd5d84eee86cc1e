/- The statement MaskAround over numbers alone: which one has so many below it, and how many are below one, turn one another around, for every word and number. -/
import Derived.Test.YtjkllkbdmkkndaaPMaskAroundx2
import Derived.Test.YtjkllkbdmkkndaaBits
namespace Go.Proofs.Ytjkllkbdmkkndaa.Pure
open Go Go.RowKit Go.Proofs.Ytjkllkbdmkkndaa.PMaskAround Go.Proofs.YtjkllkbdmkkndaaW.PrintWords Go.Proofs.YtjkllkbdmkkndaaW.PrintLast Go.Proofs.YtjkllkbdmkkndaaW.PrintMore Go.Proofs.Ytjkllkbdmkkndaa.Bits

theorem len_t (x : Nat) (hx : x < 2 ^ 64) : mask_Set_Len.f (x : Int) = some (cnt x 64 : Int) := congrArg some (lenI_eq x hx)
theorem below_t (n : Nat) (hn : n < 64) : mask_below.f (n : Int) = some ((2 ^ n - 1 : Nat) : Int) := by
  unfold mask_below.f
  by_cases h : (n : Int) ≤ 0
  · obtain rfl : n = 0 := by omega
    rfl
  · rw [if_neg h, if_neg (by omega), if_pos (by omega)]
    unfold shl
    rw [Int.toNat_natCast, show IntKind.u64.bits = 64 from rfl, Nat.min_eq_left (by omega)]
    have hp : 2 ^ n < 2 ^ 64 := Nat.pow_lt_pow_right (by decide) hn
    have hq : 0 < 2 ^ n := Nat.two_pow_pos n
    rw [show (1 : Int) * 2 ^ n = ((2 ^ n : Nat) : Int) from by push_cast; omega, wrap_nat, Nat.mod_eq_of_lt hp, show ((2 ^ n : Nat) : Int) - 1 = ((2 ^ n - 1 : Nat) : Int) from by omega, wrap_nat, Nat.mod_eq_of_lt (by omega)]
theorem below_none (n : Int) (hn : n ≤ 0) : mask_below.f n = some 0 := by unfold mask_below.f; rw [if_pos hn]
theorem below_all (n : Int) (hn : 64 ≤ n) : mask_below.f n = some ((2 ^ 64 - 1 : Nat) : Int) := by unfold mask_below.f; rw [if_neg (by omega), if_pos (by omega)]; rfl
theorem rank_t (x : Nat) (hx : x < 2 ^ 64) (n : Int) : mask_Set_Rank.f (x : Int) n = some (cnt x (min n.toNat 64) : Int) := by
  unfold mask_Set_Rank.f
  have key : ∀ j, j ≤ 64 → mask_below.f n = some ((2 ^ j - 1 : Nat) : Int) → (mask_below.f n).bind (fun t => (mask_Set_Len.f (Go.bits .and .u64 (x : Int) t)).bind fun u => some u) = some (cnt x j : Int) := by
    intro j hj h
    have hp : 2 ^ j ≤ 2 ^ 64 := Nat.pow_le_pow_right (by decide) hj
    have hq : 0 < 2 ^ j := Nat.two_pow_pos j
    rw [h, Option.bind_some, and_u64 x _ hx (by omega), Nat.and_two_pow_sub_one_eq_mod, len_t _ (Nat.lt_of_lt_of_le (Nat.mod_lt _ hq) hp), cnt_mod_above x j 64 hj]
    rfl
  by_cases h0 : n ≤ 0
  · rw [show min n.toNat 64 = 0 from by omega]
    exact key 0 (by omega) (below_none n h0)
  · by_cases h1 : 64 ≤ n
    · rw [show min n.toNat 64 = 64 from by omega]
      exact key 64 (by omega) (below_all n h1)
    · obtain ⟨m, rfl⟩ := Int.eq_ofNat_of_zero_le (show 0 ≤ n by omega)
      rw [show min ((m : Int).toNat) 64 = m from by omega]
      exact key m (by omega) (below_t m (by omega))
theorem shr_t (x n : Nat) (hn : n ≤ 64) : shr .u64 (x : Int) (n : Int) = ((x / 2 ^ n : Nat) : Int) := by
  unfold shr
  rw [Int.toNat_natCast, show IntKind.u64.bits = 64 from rfl, Nat.min_eq_left hn]
  push_cast; rfl
theorem at_loop (x : Nat) (hx : x < 2 ^ 64) : ∀ e n i : Nat, n + 2 ^ (e + 1) ≤ 64 → cnt x n + i < cnt x (n + 2 ^ (e + 1)) → ∀ k, e + 1 < k →
    ∃ p : Nat, mask_Set_At.l0 k (x : Int) (i : Int) (n : Int) ((2 ^ e : Nat) : Int) = some (p : Int) ∧ x.testBit p = true ∧ cnt x p = cnt x n + i ∧ p < 64 := by
  intro e
  induction e with
  | zero =>
    intro n i hn hi k hk
    obtain ⟨k, rfl⟩ : ∃ m, k = m + 2 := ⟨k - 2, by omega⟩
    have hd : x / 2 ^ n < 2 ^ 64 := Nat.lt_of_le_of_lt (Nat.div_le_self _ _) hx
    have hl : cnt (x / 2 ^ n % 2 ^ 1) 64 = (x.testBit n).toNat := by
      rw [cnt_mod_above _ 1 64 (by omega)]; simp only [cnt]
      rw [← Nat.shiftRight_eq_div_pow, Nat.testBit_shiftRight]; simp
    have h2 : cnt x (n + 2 ^ (0 + 1)) = cnt x n + (x.testBit n).toNat + (x.testBit (n + 1)).toNat := rfl
    rw [h2] at hi
    simp only [mask_Set_At.l0]
    rw [show ((2 ^ 0 : Nat) : Int) = 1 from rfl, if_pos (by decide), if_pos (by omega), show (1 : Int) = ((1 : Nat) : Int) from rfl, below_t 1 (by omega), Option.bind_some, shr_t x n (by omega), and_u64 _ _ hd (by decide), Nat.and_two_pow_sub_one_eq_mod, len_t _ (by omega), hl, Option.bind_some]
    have e0 : ((1 : Nat) : Int) / 2 = 0 := by decide
    rw [e0, if_neg (show ¬ ((0 : Int) > 0) by decide), if_neg (show ¬ ((0 : Int) > 0) by decide)]
    by_cases hb : x.testBit n = true
    · rw [hb] at hi; rw [hb]
      by_cases h1 : i = 0
      · subst h1
        rw [if_neg (by simp)]
        exact ⟨n, rfl, hb, by omega, by omega⟩
      · have hb2 : x.testBit (n + 1) = true := by
          cases hc : x.testBit (n + 1) with
          | true => rfl
          | false => rw [hc] at hi; simp at hi; omega
        have h3 : i = 1 := by rw [hb2] at hi; simp at hi; omega
        subst h3
        rw [if_pos (by simp)]
        refine ⟨n + 1, ?_, hb2, by simp [cnt, hb], by omega⟩
        rw [show wrap64 ((n : Int) + ((1 : Nat) : Int)) = ((n + 1 : Nat) : Int) from by unfold wrap64; omega]
    · have hb' : x.testBit n = false := by simpa using hb
      rw [hb'] at hi; rw [hb']
      have hb2 : x.testBit (n + 1) = true := by
        cases hc : x.testBit (n + 1) with
        | true => rfl
        | false => rw [hc] at hi; simp at hi; omega
      have h3 : i = 0 := by rw [hb2] at hi; simp at hi; omega
      subst h3
      rw [if_pos (by simp)]
      refine ⟨n + 1, ?_, hb2, by simp [cnt, hb'], by omega⟩
      rw [show wrap64 ((n : Int) + ((1 : Nat) : Int)) = ((n + 1 : Nat) : Int) from by unfold wrap64; omega]
  | succ e ih =>
    intro n i hn hi k hk
    obtain ⟨k, rfl⟩ : ∃ m, k = m + 1 := ⟨k - 1, by omega⟩
    have hpow : 2 ^ (e + 1 + 1) = 2 ^ (e + 1) + 2 ^ (e + 1) := by rw [Nat.pow_succ]; omega
    have hpow1 : 2 ^ (e + 1) = 2 ^ e + 2 ^ e := by rw [Nat.pow_succ]; omega
    have hpos : 0 < 2 ^ e := Nat.two_pow_pos e
    have hd : x / 2 ^ n < 2 ^ 64 := Nat.lt_of_le_of_lt (Nat.div_le_self _ _) hx
    have hs : 2 ^ (e + 1) < 64 := by omega
    have hp : 2 ^ 2 ^ (e + 1) < 2 ^ 64 := Nat.pow_lt_pow_right (by decide) hs
    have hq : 0 < 2 ^ 2 ^ (e + 1) := Nat.two_pow_pos _
    have hl : cnt (x / 2 ^ n % 2 ^ 2 ^ (e + 1)) 64 = cnt (x / 2 ^ n) (2 ^ (e + 1)) := cnt_mod_above _ _ 64 (by omega)
    have ha : cnt x (n + 2 ^ (e + 1)) = cnt x n + cnt (x / 2 ^ n) (2 ^ (e + 1)) := cnt_add _ _ _
    have hc := cnt_le (x / 2 ^ n) (2 ^ (e + 1))
    simp only [mask_Set_At.l0]
    rw [if_pos (by omega), if_pos (by omega), below_t _ hs, Option.bind_some, shr_t x n (by omega), and_u64 _ _ hd (by omega), Nat.and_two_pow_sub_one_eq_mod, len_t _ (Nat.lt_of_lt_of_le (Nat.mod_lt _ hq) (by omega)), hl, Option.bind_some]
    have e0 : ((2 ^ (e + 1) : Nat) : Int) / 2 = ((2 ^ e : Nat) : Int) := by omega
    rw [e0]
    by_cases hge : (i : Int) ≥ (cnt (x / 2 ^ n) (2 ^ (e + 1)) : Int)
    · rw [if_pos hge]
      rw [show wrap64 ((i : Int) - (cnt (x / 2 ^ n) (2 ^ (e + 1)) : Int)) = ((i - cnt (x / 2 ^ n) (2 ^ (e + 1)) : Nat) : Int) from by
        have h64 := cnt_le x (n + 2 ^ (e + 1 + 1))
        unfold wrap64; omega, show wrap64 ((n : Int) + ((2 ^ (e + 1) : Nat) : Int)) = ((n + 2 ^ (e + 1) : Nat) : Int) from by unfold wrap64; omega]
      obtain ⟨p, h1, h2, h3, h4⟩ := ih (n + 2 ^ (e + 1)) (i - cnt (x / 2 ^ n) (2 ^ (e + 1))) (by omega) (by rw [show n + 2 ^ (e + 1) + 2 ^ (e + 1) = n + 2 ^ (e + 1 + 1) from by omega]; omega) k (by omega)
      exact ⟨p, h1, h2, by omega, h4⟩
    · rw [if_neg hge]
      obtain ⟨p, h1, h2, h3, h4⟩ := ih n i (by omega) (by omega) k (by omega)
      exact ⟨p, h1, h2, h3, h4⟩
theorem at_none (x : Nat) (hx : x < 2 ^ 64) (i : Int) (h : i < 0 ∨ (cnt x 64 : Int) ≤ i) (k : Nat) (hk : 0 < k) : mask_Set_At.f k (x : Int) i = some (-1) := by
  obtain ⟨k, rfl⟩ : ∃ m, k = m + 1 := ⟨k - 1, by omega⟩
  unfold mask_Set_At.f
  by_cases h0 : i < 0
  · rw [if_pos h0]; simp [mask_Set_At.j0]
  · rw [if_neg h0, len_t x hx, Option.bind_some, decide_eq_true (show i ≥ (cnt x 64 : Int) by omega)]; simp [mask_Set_At.j0]
theorem at_some (x : Nat) (hx : x < 2 ^ 64) (i : Nat) (h : i < cnt x 64) (k : Nat) (hk : 8 < k) :
    ∃ p : Nat, mask_Set_At.f k (x : Int) (i : Int) = some (p : Int) ∧ x.testBit p = true ∧ cnt x p = i ∧ p < 64 := by
  obtain ⟨k, rfl⟩ : ∃ m, k = m + 1 := ⟨k - 1, by omega⟩
  obtain ⟨p, h1, h2, h3, h4⟩ := at_loop x hx 5 0 i (by decide) (by simpa [cnt] using h) k (by omega)
  refine ⟨p, ?_, h2, by simpa [cnt] using h3, h4⟩
  unfold mask_Set_At.f
  rw [if_neg (by omega), len_t x hx, Option.bind_some, decide_eq_false (show ¬ ((i : Int) ≥ (cnt x 64 : Int)) by omega)]
  simp only [mask_Set_At.j0]
  rw [if_neg (by decide)]
  exact h1
theorem has_t (x : Nat) (hx : x < 2 ^ 64) (n : Int) : mask_Set_Has.f (x : Int) n = some (decide (0 ≤ n) && decide (n < 64) && x.testBit n.toNat) := by
  unfold mask_Set_Has.f mask_in.f
  by_cases h0 : n ≥ 0
  · rw [if_pos h0, Option.bind_some, decide_eq_true (show 0 ≤ n from h0)]
    by_cases h1 : n < 64
    · rw [decide_eq_true h1, if_pos rfl, if_pos h0]
      obtain ⟨m, rfl⟩ := Int.eq_ofNat_of_zero_le (show 0 ≤ n from h0)
      have hd : x / 2 ^ m < 2 ^ 64 := Nat.lt_of_le_of_lt (Nat.div_le_self _ _) hx
      rw [shr_t x m (by omega), show (1 : Int) = ((1 : Nat) : Int) from rfl, and_u64 _ _ hd (by decide), Int.toNat_natCast, Nat.testBit_eq_decide_div_mod_eq]
      rw [show x / 2 ^ m &&& 1 = x / 2 ^ m % 2 from Nat.and_one_is_mod _]
      simp only [Bool.true_and]
      refine congrArg some ?_
      rw [Bool.eq_iff_iff, beq_iff_eq, decide_eq_true_eq]; omega
    · rw [decide_eq_false h1, if_neg (by decide)]; simp
  · rw [if_neg h0, Option.bind_some, if_neg (by decide), decide_eq_false (show ¬ 0 ≤ n from h0)]; simp
theorem awake_t : towlinelaw02_awake.f 20 = some true := by decide +kernel
theorem MaskAround : towlinelaw02_MaskAround.Pure := by
  intro a n ha hn
  have ha' := wf_u64 ha
  obtain ⟨x, rfl⟩ := Int.eq_ofNat_of_zero_le ha'.1
  have hx : x < 2 ^ 64 := by omega
  have hlen := cnt_le x 64
  refine ⟨21, ?_⟩
  have hA : towlinelaw02_awake.f 20 = some true := awake_t
  have hj : towlinelaw02_MaskAround.j0 21 n (x : Int) false = some true := by
    simp only [towlinelaw02_MaskAround.j0]
    rw [if_neg (by decide)]
    by_cases hr : n < 0 ∨ (cnt x 64 : Int) ≤ n
    · rw [at_none x hx n hr 20 (by decide), Option.bind_some, if_neg (by decide)]
      by_cases h0 : n < 0
      · rw [if_pos h0, hA]; rfl
      · rw [if_neg h0, len_t x hx, Option.bind_some, decide_eq_true (show n ≥ (cnt x 64 : Int) by omega), hA]; rfl
    · obtain ⟨i, rfl⟩ := Int.eq_ofNat_of_zero_le (show 0 ≤ n by omega)
      obtain ⟨p, h1, h2, h3, h4⟩ := at_some x hx i (by omega) 20 (by decide)
      rw [h1, Option.bind_some, if_pos (by omega), has_t x hx, Option.bind_some, Int.toNat_natCast, h2, decide_eq_true (show (0 : Int) ≤ p by omega), decide_eq_true (show (p : Int) < 64 by omega), if_pos (show (true && true && true) = true from rfl), rank_t x hx, Option.bind_some, show min ((p : Int).toNat) 64 = p from by omega, h3, if_pos rfl, if_neg (by omega), len_t x hx, Option.bind_some, decide_eq_false (show ¬ ((p : Int) < 0) by omega), decide_eq_false (show ¬ ((i : Int) ≥ (cnt x 64 : Int)) by omega), hA]
      rfl
  unfold towlinelaw02_MaskAround.f
  rw [has_t x hx n, Option.bind_some]
  by_cases hb : (decide (0 ≤ n) && decide (n < 64) && x.testBit n.toNat) = true
  · rw [if_pos hb, rank_t x hx, Option.bind_some]
    simp only [Bool.and_eq_true, decide_eq_true_eq] at hb
    obtain ⟨m, rfl⟩ := Int.eq_ofNat_of_zero_le hb.1.1
    rw [Int.toNat_natCast] at hb ⊢
    have hm : m < 64 := by omega
    rw [Nat.min_eq_left (by omega)]
    obtain ⟨p, h1, h2, h3, h4⟩ := at_some x hx (cnt x m) (cnt_lt x hm hb.2) 21 (by decide)
    obtain rfl := cnt_inj x h2 hb.2 h3
    rw [h1, Option.bind_some]
    simpa using hj
  · rw [if_neg hb]; exact hj

end Go.Proofs.Ytjkllkbdmkkndaa.Pure
