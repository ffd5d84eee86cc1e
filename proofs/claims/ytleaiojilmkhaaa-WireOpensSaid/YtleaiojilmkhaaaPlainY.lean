/- Plain laws: a number that is read has the bytes that would be put. -/
import Derived.Test.YtleaiojilmkhaaaPlainX
namespace Go.Proofs.Ytleaiojilmkhaaa.Wire
open Go Go.RowKit Go.Proofs.YtleaiojilmkhaaaW.PrintWords Go.Proofs.YtleaiojilmkhaaaW.PrintLast Go.Proofs.YtleaiojilmkhaaaW.PrintMore
set_option linter.unusedVariables false
theorem num_ten (n : Nat) (r : List Int) : (numGo 10 n r).2.2 ≠ 0 := by
  cases r with
  | nil => simp [numGo]
  | cons x r => rw [num_long (.inl rfl)]; decide
theorem num_back : ∀ (r : List Int) (i acc : Nat), Bs r → i ≤ 9 → (numGo i acc r).2.2 = 0 → ∃ m, (numGo i acc r).1 = acc + m * 128 ^ i ∧ enc (9 - i) m = r.take ((numGo i acc r).2.1 - i) ∧ (0 < m ∨ i = 0) ∧ i < (numGo i acc r).2.1 := by
  intro r
  induction r with
  | nil => intro i acc _ _ h; simp [numGo] at h
  | cons x r ih =>
    intro i acc hb hi h
    have hx := hb x (List.mem_cons_self ..)
    obtain ⟨b, rfl⟩ := Int.eq_ofNat_of_zero_le hx.1
    by_cases c : i = 10 ∨ (i = 9 ∧ 1 < (b : Int).toNat % 128)
    · rw [num_long c] at h; exact absurd h (by decide)
    · by_cases d : (b : Int) = 0 ∧ 0 < i
      · rw [num_form c d] at h; exact absurd h (by decide)
      · by_cases e : (b : Int) < 128
        · rw [num_last c d e, Int.toNat_natCast, Nat.mod_eq_of_lt (show b < 128 by omega)]
          refine ⟨b, rfl, ?_, by omega, by show i < i + 1; omega⟩
          rw [enc_small _ (show b < 128 by omega)]
          show _ = List.take (i + 1 - i) _
          rw [Nat.add_sub_cancel_left]; rfl
        · rw [num_more c d e, Int.toNat_natCast] at h ⊢
          have hi9 : i < 9 := by
            rcases Nat.lt_or_ge i 9 with h9 | h9
            · exact h9
            · obtain rfl : i = 9 := by omega
              exact absurd h (num_ten _ _)
          obtain ⟨m, h1, h2, h3, h4⟩ := ih (i + 1) _ (fun y hy => hb y (List.mem_cons_of_mem _ hy)) (by omega) h
          have hm : 0 < m := by omega
          refine ⟨b % 128 + 128 * m, ?_, ?_, by omega, by omega⟩
          · rw [h1, Nat.pow_succ, Nat.add_mul, Nat.add_assoc, Nat.mul_comm (128 ^ i) 128, ← Nat.mul_assoc, Nat.mul_comm m 128]
          · obtain ⟨f, hf⟩ : ∃ f, 9 - i = f + 1 := ⟨8 - i, by omega⟩
            rw [hf, enc_big f (by omega)]
            obtain ⟨k, hk⟩ : ∃ k, (numGo (i + 1) (acc + b % 128 * 128 ^ i) r).2.1 - i = k + 1 := ⟨(numGo (i + 1) (acc + b % 128 * 128 ^ i) r).2.1 - i - 1, by omega⟩
            rw [hk, List.take_succ_cons, show (b % 128 + 128 * m) / 128 = m by omega, show f = 9 - (i + 1) by omega, h2, show (numGo (i + 1) (acc + b % 128 * 128 ^ i) r).2.1 - (i + 1) = k by omega]
            congr 1
            omega
theorem num_canon {r : List Int} (hb : Bs r) (h : (num r).2.2 = 0) : enc 9 (num r).1 = r.take (num r).2.1 := by
  obtain ⟨m, h1, h2, _, _⟩ := num_back r 0 0 hb (by decide) h
  unfold num at h ⊢
  rw [h1, Nat.pow_zero, Nat.mul_one, Nat.zero_add]
  exact h2
theorem num_le {r : List Int} (h : (num r).2.2 = 0) : (num r).2.1 ≤ r.length ∧ 0 < (num r).2.1 := by
  have := numGo_ok r 0 0 h
  unfold num; omega
theorem num_lt (r : List Int) : (num r).1 < 18446744073709551616 := numGo_lt r 0 0 (by decide) (by decide)
end Go.Proofs.Ytleaiojilmkhaaa.Wire
