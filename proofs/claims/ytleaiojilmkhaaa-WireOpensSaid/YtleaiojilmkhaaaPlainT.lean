/- Plain laws of Turn and Back, and of what Put puts. -/
import Derived.Laws.DeepNot64
import Derived.Laws.BitsAllLaws
import Derived.Laws.Bits64b
import Derived.Test.YtleaiojilmkhaaaWMore
namespace Go.Proofs.Ytleaiojilmkhaaa.Wire
open Go Go.RowKit
set_option linter.unusedVariables false
theorem u64w (n : Int) : IntKind.u64.wrap n = n % 18446744073709551616 := by simp [IntKind.wrap, IntKind.bits, IntKind.signed]
def turnP (n : Int) : Int := if 0 ≤ n then 2 * n else -2 * n - 1
def backP (n : Int) : Int := if n % 2 = 0 then n / 2 else -(n / 2) - 1
theorem xor_ones (a : Nat) (h : a < 18446744073709551616) : a ^^^ 18446744073709551615 = 18446744073709551615 - a := by
  apply Nat.eq_of_testBit_eq
  intro i
  rw [Nat.testBit_xor, show (18446744073709551615 : Nat) = 2 ^ 64 - 1 from rfl, Nat.testBit_two_pow_sub_one, show 2 ^ 64 - 1 - a = 2 ^ 64 - (a + 1) by omega, Nat.testBit_two_pow_sub_succ (show a < 2 ^ 64 from h)]
  by_cases hi : i < 64
  · rw [decide_eq_true hi]; cases a.testBit i <;> rfl
  · rw [decide_eq_false hi, Nat.testBit_lt_two_pow (Nat.lt_of_lt_of_le (show a < 2 ^ 64 from h) (Nat.pow_le_pow_right (by decide) (by omega)))]; rfl
theorem turn_w (n : Int) (h : -9223372036854775808 ≤ n ∧ n ≤ 9223372036854775807) : Go.bits .xor .u64 (IntKind.u64.wrap (wrap64 (n * 2))) (IntKind.u64.wrap (n / 9223372036854775808)) = turnP n := by
  unfold turnP
  by_cases h0 : 0 ≤ n
  · obtain ⟨m, rfl⟩ := Int.eq_ofNat_of_zero_le h0
    rw [if_pos h0, show IntKind.u64.wrap (wrap64 ((m : Int) * 2)) = ((2 * m : Nat) : Int) by rw [u64w]; unfold wrap64; omega, show IntKind.u64.wrap ((m : Int) / 9223372036854775808) = ((0 : Nat) : Int) by rw [u64w]; omega, u64_xor_nat _ _ (by omega) (by decide), Nat.xor_zero]; omega
  · obtain ⟨m, hm⟩ := Int.eq_ofNat_of_zero_le (show 0 ≤ 2 * n + 18446744073709551616 by omega)
    rw [if_neg h0, show IntKind.u64.wrap (wrap64 (n * 2)) = ((m : Nat) : Int) by rw [u64w]; unfold wrap64; omega, show IntKind.u64.wrap (n / 9223372036854775808) = ((18446744073709551615 : Nat) : Int) by rw [u64w]; omega, u64_xor_nat _ _ (by omega) (by decide), xor_ones m (by omega)]; omega
theorem xor_i64_zero (a : Nat) (ha : a < 9223372036854775808) : Go.bits .xor .i64 (a : Int) 0 = (a : Int) := by
  show IntKind.i64.wrap ((BitVec.ofInt 64 (a : Int) ^^^ BitVec.ofInt 64 0).toNat : Int) = _
  rw [show BitVec.ofInt 64 0 = 0#64 by decide, BitVec.xor_zero, ofInt_u64 a (by omega)]
  simp [IntKind.wrap, IntKind.bits, IntKind.signed]
  omega
theorem xor_i64_ones (a : Nat) (ha : a < 9223372036854775808) : Go.bits .xor .i64 (a : Int) (-1) = -1 - (a : Int) := by
  rw [← i64_not a ha]
  show IntKind.i64.wrap ((BitVec.ofInt 64 (a : Int) ^^^ BitVec.ofInt 64 (-1)).toNat : Int) = IntKind.i64.wrap ((BitVec.ofInt 64 (-1) ^^^ BitVec.ofInt 64 (a : Int)).toNat : Int)
  rw [BitVec.xor_comm]
theorem back_w (m : Nat) (h : m < 18446744073709551616) : Go.bits .xor .i64 (wrap64 ((m : Int) / 2)) (wrap64 (-(wrap64 (Go.bits .and .u64 (m : Int) 1)))) = backP m := by
  have h1 : Go.bits .and .u64 (m : Int) 1 = ((m % 2 : Nat) : Int) := by
    have := bits_and_u64_nat m 1 h (by decide)
    rw [Nat.and_one_is_mod] at this
    exact this
  have h2 : wrap64 ((m : Int) / 2) = ((m / 2 : Nat) : Int) := by unfold wrap64; omega
  rw [h1, h2]
  clear h1 h2
  unfold backP
  rcases Nat.mod_two_eq_zero_or_one m with h3 | h3
  · rw [h3, if_pos (by omega), show wrap64 (-(wrap64 ((0 : Nat) : Int))) = 0 by decide +kernel, xor_i64_zero _ (by omega)]; omega
  · rw [h3, if_neg (by omega), show wrap64 (-(wrap64 ((1 : Nat) : Int))) = -1 by decide +kernel, xor_i64_ones _ (by omega)]; omega
theorem back_turn (n : Int) : backP (turnP n) = n := by unfold backP turnP; split <;> split <;> omega
theorem turn_back (m : Int) (h : 0 ≤ m) : turnP (backP m) = m := by unfold backP turnP; split <;> split <;> omega
theorem turn_range (n : Int) (h : -9223372036854775808 ≤ n ∧ n ≤ 9223372036854775807) : 0 ≤ turnP n ∧ turnP n < 18446744073709551616 := by unfold turnP; split <;> omega
theorem back_range (m : Int) (h : 0 ≤ m ∧ m < 18446744073709551616) : -9223372036854775808 ≤ backP m ∧ backP m ≤ 9223372036854775807 := by unfold backP; split <;> omega
theorem turn_r0 (n : Int) (h : -9223372036854775808 ≤ n ∧ n ≤ 9223372036854775807) (h0 : n ≥ 0) : IntKind.u64.wrap (2 * (IntKind.u64.wrap n)) = turnP n := by rw [u64w, u64w]; unfold turnP; rw [if_pos h0]; omega
theorem turn_r1 (n : Int) (h : -9223372036854775808 ≤ n ∧ n ≤ 9223372036854775807) (h0 : ¬ n ≥ 0) : IntKind.u64.wrap ((IntKind.u64.wrap (2 * (IntKind.u64.wrap (wrap64 (-(wrap64 (n + 1))))))) + 1) = turnP n := by
  rw [u64w, u64w, u64w]; unfold turnP; rw [if_neg h0, show wrap64 (-(wrap64 (n + 1))) = -(n + 1) by unfold wrap64; omega]; omega
theorem back_r0 (m : Nat) (h : m < 18446744073709551616) (h0 : Int.tmod (m : Int) 2 = 0) : wrap64 (IntKind.u64.wrap (Int.tdiv (m : Int) 2)) = backP m := by
  rw [Int.tmod_eq_emod_of_nonneg (by omega)] at h0
  rw [Int.tdiv_eq_ediv_of_nonneg (by omega), u64w]; unfold backP; rw [if_pos h0]; unfold wrap64; omega
theorem back_r1 (m : Nat) (h : m < 18446744073709551616) (h0 : ¬ Int.tmod (m : Int) 2 = 0) : wrap64 ((wrap64 (-(wrap64 (IntKind.u64.wrap (Int.tdiv (m : Int) 2))))) - 1) = backP m := by
  rw [Int.tmod_eq_emod_of_nonneg (by omega)] at h0
  rw [Int.tdiv_eq_ediv_of_nonneg (by omega), u64w]; unfold backP; rw [if_neg h0, show wrap64 ((m : Int) / 2 % 18446744073709551616) = (m : Int) / 2 by unfold wrap64; omega, show wrap64 (-((m : Int) / 2)) = -((m : Int) / 2) by unfold wrap64; omega]; unfold wrap64; omega
theorem wf_u64 {a : Int} (h : (Lit.int .u64 a).wf = true) : 0 ≤ a ∧ a < 18446744073709551616 := by
  simp only [Lit.wf, Bool.and_eq_true, decide_eq_true_eq] at h
  rw [show IntKind.u64.min = 0 from by decide, show IntKind.u64.max = 18446744073709551615 from by decide] at h
  omega
theorem wf_u8 {a : Int} (h : (Lit.int .u8 a).wf = true) : 0 ≤ a ∧ a < 256 := by
  simp only [Lit.wf, Bool.and_eq_true, decide_eq_true_eq] at h
  rw [show IntKind.u8.min = 0 from by decide, show IntKind.u8.max = 255 from by decide] at h
  omega
theorem wf_i64 {a : Int} (h : (Lit.int .i64 a).wf = true) : -9223372036854775808 ≤ a ∧ a ≤ 9223372036854775807 := by
  simp only [Lit.wf, Bool.and_eq_true, decide_eq_true_eq] at h
  rw [show IntKind.i64.min = -9223372036854775808 from by decide, show IntKind.i64.max = 9223372036854775807 from by decide] at h
  omega
end Go.Proofs.Ytleaiojilmkhaaa.Wire
