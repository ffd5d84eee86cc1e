/- Plain lemmas: the least and the greatest number of a word's set, and all of them. -/
import Derived.Test.YtjkllkbdmkkndaaPlainC
namespace Go.Proofs.Ytjkllkbdmkkndaa.Ref
open Go Go.RowKit Go.Proofs.YtjkllkbdmkkndaaW.PrintWords Go.Proofs.YtjkllkbdmkkndaaW.PrintLast Go.Proofs.YtjkllkbdmkkndaaW.PrintMore Go.Proofs.Ytjkllkbdmkkndaa.Bits
theorem low_split : ∀ x : Nat, x ≠ 0 → ∃ p m, x = 2 ^ (p + 1) * m + 2 ^ p
  | x, hx => by
    rcases Nat.mod_two_eq_zero_or_one x with h | h
    · obtain ⟨p, m, e⟩ := low_split (x / 2) (by omega)
      refine ⟨p + 1, m, ?_⟩
      have : x = 2 * (x / 2) := by omega
      rw [this, e, Nat.pow_succ 2 (p + 1), Nat.pow_succ 2 p]; generalize 2 ^ p = q; rw [Nat.mul_add]; congr 1
      · rw [Nat.mul_right_comm (q * 2) 2 m, Nat.mul_comm]
      · omega
    · exact ⟨0, x / 2, by simp; omega⟩
termination_by x => x
decreasing_by omega
theorem low_rest (p m i : Nat) : (2 ^ (p + 1) * m).testBit i = if i < p + 1 then false else m.testBit (i - (p + 1)) := by
  rw [Nat.testBit_two_pow_mul]
  by_cases h : i < p + 1
  · rw [if_pos h, decide_eq_false (by omega), Bool.false_and]
  · rw [if_neg h, decide_eq_true (by omega), Bool.true_and]
section
variable {x p m : Nat} (e : x = 2 ^ (p + 1) * m + 2 ^ p)
include e
theorem low_bit (i : Nat) : x.testBit i = if i < p + 1 then decide (p = i) else m.testBit (i - (p + 1)) := by
  rw [e, Nat.testBit_two_pow_mul_add _ (Nat.pow_lt_pow_right (by decide) (Nat.lt_succ_self p))]
  by_cases h : i < p + 1
  · rw [if_pos h, if_pos h, Nat.testBit_two_pow]
  · rw [if_neg h, if_neg h]
theorem low_pred (i : Nat) : (x - 1).testBit i = if i < p + 1 then decide (i < p) else m.testBit (i - (p + 1)) := by
  have hp : 0 < 2 ^ p := Nat.two_pow_pos p
  have h2 : 2 ^ p < 2 ^ (p + 1) := Nat.pow_lt_pow_right (by decide) (Nat.lt_succ_self p)
  rw [show x - 1 = 2 ^ (p + 1) * m + (2 ^ p - 1) from by omega, Nat.testBit_two_pow_mul_add _ (by omega)]
  by_cases h : i < p + 1
  · rw [if_pos h, if_pos h, Nat.testBit_two_pow_sub_one]
  · rw [if_neg h, if_neg h]
theorem low_lt (hx : x < 2 ^ 64) : p < 64 := by
  have : 2 ^ p < 2 ^ 64 := by omega
  exact (Nat.pow_lt_pow_iff_right (by decide)).1 this
theorem low_neg (hx : x < 2 ^ 64) : x &&& (2 ^ 64 - x) = 2 ^ p := by
  have hp : 0 < 2 ^ p := Nat.two_pow_pos p
  have hp64 := low_lt e hx
  refine Nat.eq_of_testBit_eq fun i => ?_
  rw [Nat.testBit_and, show 2 ^ 64 - x = 2 ^ 64 - ((x - 1) + 1) from by omega, Nat.testBit_two_pow_sub_succ (by omega), low_bit e, low_pred e, Nat.testBit_two_pow]
  by_cases h : i < p + 1
  · rw [if_pos h, if_pos h]
    by_cases h2 : p = i
    · subst h2; simp [hp64]
    · simp [h2]
  · rw [if_neg h, if_neg h, decide_eq_false (show ¬ p = i by omega)]
    cases m.testBit (i - (p + 1)) <;> simp
theorem low_clear : x &&& (x - 1) = 2 ^ (p + 1) * m := by
  refine Nat.eq_of_testBit_eq fun i => ?_
  rw [Nat.testBit_and, low_bit e, low_pred e, low_rest p m]
  by_cases h : i < p + 1
  · rw [if_pos h, if_pos h, if_pos h]
    by_cases h2 : p = i
    · subst h2; simp
    · simp [h2]
  · rw [if_neg h, if_neg h, if_neg h, Bool.and_self]
theorem low_bits : ∀ n, bitsTo x n = if n ≤ p then [] else (p : Int) :: bitsTo (2 ^ (p + 1) * m) n
  | 0 => by rw [if_pos (Nat.zero_le _)]; rfl
  | n + 1 => by
    rw [bitsTo, low_bits n, low_bit e]
    by_cases h : n < p
    · rw [if_pos (show n ≤ p by omega), if_pos (show n < p + 1 by omega), decide_eq_false (show ¬ p = n by omega), if_neg (by decide), if_pos (show n + 1 ≤ p by omega)]
    · by_cases h2 : p = n
      · subst h2
        have hz : ∀ k, k ≤ p + 1 → bitsTo (2 ^ (p + 1) * m) k = [] := by
          intro k
          induction k with
          | zero => intro _; rfl
          | succ k ih => intro hk; rw [bitsTo, ih (by omega), low_rest p m, if_pos (show k < p + 1 by omega)]; exact if_neg (by decide)
        rw [if_pos (Nat.le_refl _), if_pos (Nat.lt_succ_self p), decide_eq_true rfl, if_pos rfl, if_neg (by omega), hz _ (Nat.le_refl _)]; rfl
      · rw [if_neg (show ¬ n ≤ p by omega), if_neg (show ¬ n < p + 1 by omega), if_neg (show ¬ n + 1 ≤ p by omega), bitsTo, low_rest p m, if_neg (show ¬ n < p + 1 by omega)]
        cases m.testBit (n - (p + 1)) <;> simp
end
theorem cnt_ones (x : Nat) : ∀ n, (∀ i, i < n → x.testBit i = true) → cnt x n = n
  | 0, _ => rfl
  | n + 1, h => by simp only [cnt]; rw [cnt_ones x n (fun i hi => h i (by omega)), h n (by omega)]; rfl
theorem cnt_low (p : Nat) (h : p ≤ 64) : cnt (2 ^ p - 1) 64 = p := by
  have hb : ∀ i, i < p → (2 ^ p - 1).testBit i = true := fun i hi => by rw [Nat.testBit_two_pow_sub_one, decide_eq_true hi]
  rw [cnt_above (2 ^ p - 1) p (by have := Nat.two_pow_pos p; omega) 64 h, cnt_ones _ p hb]
theorem cnt_pos {x : Nat} (hx : x ≠ 0) (hl : x < 2 ^ 64) : 0 < cnt x 64 := by
  obtain ⟨p, m, e⟩ := low_split x hx
  have := low_bits e 64
  rw [if_neg (by have := low_lt e hl; omega)] at this
  rw [← bitsTo_length, this]; simp
/-- The greatest number of a set is the last one. -/
theorem high_bits (x h : Nat) (h1 : 2 ^ h ≤ x) (h2 : x < 2 ^ (h + 1)) : ∀ n, h + 1 ≤ n → bitsTo x n = bitsTo x h ++ [(h : Int)]
  | 0, hn => by omega
  | n + 1, hn => by
    by_cases e : h = n
    · subst e
      have : x.testBit h = true := by
        rw [Nat.testBit_eq_decide_div_mod_eq]
        have : x / 2 ^ h = 1 := by
          rw [Nat.pow_succ] at h2
          exact Nat.div_eq_of_lt_le (by omega) (by omega)
        rw [this]; rfl
      rw [bitsTo, if_pos this]
    · have hb : x.testBit n = false := Nat.testBit_lt_two_pow (Nat.lt_of_lt_of_le h2 (Nat.pow_le_pow_right (by decide) (by omega)))
      rw [bitsTo, hb, if_neg (by decide), high_bits x h h1 h2 n (by omega)]
end Go.Proofs.Ytjkllkbdmkkndaa.Ref
