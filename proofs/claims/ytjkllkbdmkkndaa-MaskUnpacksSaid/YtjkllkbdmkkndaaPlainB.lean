/- Plain lemmas: a word turned around by a number of places. -/
import Derived.Test.YtjkllkbdmkkndaaPlainA
namespace Go.Proofs.Ytjkllkbdmkkndaa.Ref
open Go Go.RowKit Go.Proofs.YtjkllkbdmkkndaaW.PrintWords Go.Proofs.YtjkllkbdmkkndaaW.PrintLast Go.Proofs.YtjkllkbdmkkndaaW.PrintMore Go.Proofs.Ytjkllkbdmkkndaa.Bits
def rotN (x k : Nat) : Nat := (x * 2 ^ k % 2 ^ 64) ||| (x / 2 ^ (64 - k))
theorem rotN_lt (x k : Nat) (hx : x < 2 ^ 64) : rotN x k < 2 ^ 64 :=
  Nat.or_lt_two_pow (Nat.mod_lt _ (by decide)) (Nat.lt_of_le_of_lt (Nat.div_le_self _ _) hx)
theorem rotN_bit (x k j : Nat) (hx : x < 2 ^ 64) (hk : k < 64) (hj : j < 64) : (rotN x k).testBit j = x.testBit ((j + 64 - k) % 64) := by
  unfold rotN
  rw [Nat.testBit_or, Nat.testBit_mod_two_pow, decide_eq_true hj, Bool.true_and, ← Nat.shiftLeft_eq, Nat.testBit_shiftLeft, ← Nat.shiftRight_eq_div_pow, Nat.testBit_shiftRight]
  by_cases h : k ≤ j
  · rw [decide_eq_true (show j ≥ k from h), Bool.true_and, Nat.testBit_lt_two_pow (i := 64 - k + j) (Nat.lt_of_lt_of_le hx (Nat.pow_le_pow_right (by decide) (by omega))), Bool.or_false, show (j + 64 - k) % 64 = j - k from by omega]
  · rw [decide_eq_false (show ¬ j ≥ k by omega), Bool.false_and, Bool.false_or, show (j + 64 - k) % 64 = 64 - k + j from by omega]
theorem turnTo_eq (x : Nat) (q : Int) (j : Nat) (hj : j < 64) : ∀ K, K ≤ 64 → turnTo x q K j = (decide ((((j : Int) - q) % 64).toNat < K) && x.testBit (((j : Int) - q) % 64).toNat)
  | 0, _ => by simp [turnTo]
  | K + 1, hK => by
    rw [turnTo, turnTo_eq x q j hj K (by omega)]
    by_cases h : j = (((K : Int) + q + 64) % 64).toNat
    · have e : (((j : Int) - q) % 64).toNat = K := by omega
      rw [if_pos h, e, decide_eq_true (Nat.lt_succ_self K), Bool.true_and]
    · rw [if_neg h]
      by_cases c : (((j : Int) - q) % 64).toNat < K
      · rw [decide_eq_true c, decide_eq_true (show (((j : Int) - q) % 64).toNat < K + 1 by omega)]
      · rw [decide_eq_false c, decide_eq_false (show ¬ (((j : Int) - q) % 64).toNat < K + 1 by omega)]
theorem tmod64 (n : Int) : n.tmod 64 = if 0 ≤ n ∨ (64 : Int) ∣ n then n % 64 else n % 64 - 64 := by
  rw [Int.tmod_eq_emod]; split <;> simp
theorem tmod64_bd (n : Int) : -63 ≤ n.tmod 64 ∧ n.tmod 64 ≤ 63 ∧ (n.tmod 64) % 64 = n % 64 := by
  rw [tmod64]; split <;> omega
theorem turned_eq (x : Nat) (n q : Int) (k : Nat) (hx : x < 2 ^ 64) (hk : (k : Int) = n % 64) (hq : n.tmod 64 = q) : W (turnTo x q 64) = rotN x k :=
  W_of (rotN_lt x k hx) (fun j hj => by
    have e : (((j : Int) - q) % 64).toNat = (j + 64 - k) % 64 := by
      have : q % 64 = n % 64 := by rw [← hq]; exact (tmod64_bd n).2.2
      omega
    rw [rotN_bit x k j hx (by omega) hj, turnTo_eq x q j hj 64 (by omega), e, decide_eq_true (by omega), Bool.true_and])
theorem rotN_back (x a b : Nat) (hx : x < 2 ^ 64) (ha : a < 64) (hb : b < 64) (h : (a + b) % 64 = 0) : rotN (rotN x a) b = x :=
  word_ext (rotN_lt _ b (rotN_lt x a hx)) hx (fun j hj => by
    rw [rotN_bit _ b j (rotN_lt x a hx) hb hj, rotN_bit x a _ hx ha (by omega)]; congr 1; omega)
theorem cnt_rotN (x k : Nat) (hx : x < 2 ^ 64) (hk : k < 64) : cnt (rotN x k) 64 = cnt x 64 := by
  have e1 : cnt (rotN x k) 64 = cnt (rotN x k) k + cnt (rotN x k / 2 ^ k) (64 - k) := by rw [← cnt_add]; congr 1; omega
  have e2 : cnt x 64 = cnt x (64 - k) + cnt (x / 2 ^ (64 - k)) k := by rw [← cnt_add]; congr 1; omega
  have h1 : cnt (rotN x k) k = cnt (x / 2 ^ (64 - k)) k := cnt_congr k (fun i hi => by
    rw [rotN_bit x k i hx hk (by omega), ← Nat.shiftRight_eq_div_pow, Nat.testBit_shiftRight]; congr 1; omega)
  have h2 : cnt (rotN x k / 2 ^ k) (64 - k) = cnt x (64 - k) := cnt_congr _ (fun i hi => by
    rw [← Nat.shiftRight_eq_div_pow, Nat.testBit_shiftRight, rotN_bit x k _ hx hk (by omega)]; congr 1; omega)
  omega
theorem and63 (n : Int) : Go.bits .and .u64 (IntKind.u64.wrap n) 63 = n % 64 := by
  rw [wrap_u64]
  obtain ⟨m, hm⟩ := Int.eq_ofNat_of_zero_le (show 0 ≤ n % 18446744073709551616 by omega)
  rw [hm, show (63 : Int) = ((63 : Nat) : Int) from rfl, and_u64 m 63 (by omega) (by decide), show m &&& 63 = m % 2 ^ 6 from Nat.and_two_pow_sub_one_eq_mod m 6]
  omega
end Go.Proofs.Ytjkllkbdmkkndaa.Ref
