/- Plain law: what the reference's Number reads. -/
import Derived.Test.YtleaiojilmkhaaaPlainZ
namespace Go.Proofs.Ytleaiojilmkhaaa.Wire
open Go Go.RowKit Go.Proofs.YtleaiojilmkhaaaW.PrintWords Go.Proofs.YtleaiojilmkhaaaW.PrintLast Go.Proofs.YtleaiojilmkhaaaW.PrintMore
open Go.Proofs.Ytleaiojilmkhaaa.WBase
set_option linter.unusedVariables false
/-- What the reference's Number tells of a state at 'was' that read 'q'. -/
def resR (was : Nat) (q : Nat × Nat × Int) : Option (Int × Int × Int) := some (if q.2.2 = 0 then ((q.1 : Int), ((was + q.2.1 : Nat) : Int), 0) else (0, (was : Int), q.2.2))
theorem r_l0_end {k : Nat} {n st i at_ : Int} {s : List Int} (hi : i < 11) (h : wrap64 (at_ + i) ≥ (s.length : Int)) : towlineref01_Reader_Number.l0 (k + 1) n st i s at_ 0 = some (0, at_, 2) := by
  simp only [towlineref01_Reader_Number.l0]; rw [if_pos hi, if_pos h]
theorem r_l0 {k : Nat} {n st i at_ p low : Int} {s : List Int} (hi : i < 11) (hp : wrap64 (at_ + i) = p) (h0 : 0 ≤ p) (h1 : p < (s.length : Int)) (hl : IntKind.u64.wrap (Int.tmod (rd s p) 128) = low) : towlineref01_Reader_Number.l0 (k + 1) n st i s at_ 0 = towlineref01_Reader_Number.j1 k n st i (rd s p) low i (if i = 10 then true else if i = 9 then decide (low > 1) else false) s at_ 0 := by
  simp only [towlineref01_Reader_Number.l0]
  rw [hp, if_pos hi, if_neg (by omega), if_pos h0, if_pos h1, hl]
  split
  · rfl
  · split <;> rfl
theorem r_j1_t {k : Nat} {n st i x low j at_ : Int} {s : List Int} : towlineref01_Reader_Number.j1 (k + 1) n st i x low j true s at_ 0 = some (0, at_, 5) := by
  simp only [towlineref01_Reader_Number.j1]; rw [if_pos trivial]
theorem r_j1_f {k : Nat} {n st i x low j at_ : Int} {s : List Int} : towlineref01_Reader_Number.j1 (k + 1) n st i x low j false s at_ 0 = towlineref01_Reader_Number.j2 k n st i x low j (if x = 0 then decide (i > 0) else false) s at_ 0 := by
  simp only [towlineref01_Reader_Number.j1]; rw [if_neg (by decide)]
  split <;> rfl
theorem r_j2_t {k : Nat} {n st i x low j at_ : Int} {s : List Int} : towlineref01_Reader_Number.j2 (k + 1) n st i x low j true s at_ 0 = some (0, at_, 10) := by
  simp only [towlineref01_Reader_Number.j2]; rw [if_pos trivial]
theorem r_j2_f {k : Nat} {n st i x low j at_ : Int} {s : List Int} : towlineref01_Reader_Number.j2 (k + 1) n st i x low j false s at_ 0 = if x < 128 then some (IntKind.u64.wrap (n + IntKind.u64.wrap (low * st)), wrap64 (wrap64 (at_ + i) + 1), 0) else towlineref01_Reader_Number.l0 k (IntKind.u64.wrap (n + IntKind.u64.wrap (low * st))) (IntKind.u64.wrap (st * 128)) (wrap64 (j + 1)) s at_ 0 := by
  simp only [towlineref01_Reader_Number.j2]; rw [if_neg (by decide)]
theorem add_step (n low i : Nat) (hn : n < 128 ^ i) (hi : i ≤ 9) (hl : low < 128) (h9 : i = 9 → low ≤ 1) (st : Nat) (hst : st = 128 ^ i % 18446744073709551616) :
    IntKind.u64.wrap ((n : Int) + IntKind.u64.wrap ((low : Int) * (st : Int))) = ((n + low * 128 ^ i : Nat) : Int) := by
  have h9p : (128 : Nat) ^ 9 = 9223372036854775808 := by decide
  have hp : (128 : Nat) ^ i ≤ 128 ^ 9 := Nat.pow_le_pow_right (by decide) hi
  have hst2 : st = 128 ^ i := by rw [hst]; exact Nat.mod_eq_of_lt (by omega)
  rw [hst2, ← Int.natCast_mul]
  have hlt : low * 128 ^ i < 9223372036854775809 := by
    rcases Nat.lt_or_ge i 9 with h | h
    · have h8 : (128 : Nat) ^ i ≤ 128 ^ 8 := Nat.pow_le_pow_right (by decide) (by omega)
      have : low * 128 ^ i ≤ 127 * 128 ^ 8 := Nat.mul_le_mul (by omega) h8
      have : (127 : Nat) * 128 ^ 8 = 9151314442816847872 := by decide
      omega
    · have : i = 9 := by omega
      subst this
      have := h9 rfl
      have : low * 128 ^ 9 ≤ 1 * 128 ^ 9 := Nat.mul_le_mul_right _ this
      omega
  rw [wrap_nat (by omega), ← Int.natCast_add, wrap_nat (by omega)]
theorem rnumber_l0 (s : List Int) (hs : Bs s) (hlen : s.length < 140737488355328) (was : Nat) : ∀ (r : List Int) (i n st k : Nat), s.drop (was + i) = r → i ≤ 10 → n < 128 ^ i → st = 128 ^ i % 18446744073709551616 → was + i ≤ s.length → 3 * (12 - i) ≤ k →
    towlineref01_Reader_Number.l0 k (n : Int) (st : Int) (i : Int) s (was : Int) 0 = resR was (numGo i n r) := by
  intro r
  induction r with
  | nil =>
    intro i n st k hd hi hn hst hle hk
    obtain ⟨k, rfl⟩ : ∃ k', k = k' + 1 := ⟨k - 1, by omega⟩
    have := List.drop_eq_nil_iff.1 hd
    rw [r_l0_end (by omega) (by unfold wrap64; omega)]
    rfl
  | cons x r ih =>
    intro i n st k hd hi hn hst hle hk
    obtain ⟨k, rfl⟩ : ∃ k', k = k' + 3 := ⟨k - 3, by omega⟩
    obtain ⟨hx, hlt, hmem, hd2⟩ := rd_drop hd
    obtain ⟨hx0, hx1⟩ := hs x hmem
    obtain ⟨b, rfl⟩ := Int.eq_ofNat_of_zero_le hx0
    have hw := Aside0.mk (show wrap64 ((was : Int) + (i : Int)) = ((was + i : Nat) : Int) by unfold wrap64; omega)
    have hlow := Aside0.mk (show IntKind.u64.wrap (Int.tmod (rd s ((was + i : Nat) : Int)) 128) = ((b % 128 : Nat) : Int) by
      rw [hx, Int.tmod_eq_emod_of_nonneg (by omega), wrap_u64']; omega)
    have h0 : (0 : Int) ≤ ((was + i : Nat) : Int) := by omega
    have h1 : ((was + i : Nat) : Int) < (s.length : Int) := by omega
    rw [r_l0 (by omega) hw.out h0 h1 hlow.out, hx]
    have hb : (b : Int).toNat = b := Int.toNat_natCast b
    by_cases c : i = 10 ∨ (i = 9 ∧ 1 < (b : Int).toNat % 128)
    · rw [num_long c]
      rw [hb] at c
      have ht : (if (i : Int) = 10 then true else if (i : Int) = 9 then decide (((b % 128 : Nat) : Int) > 1) else false) = true := by
        rcases c with c | ⟨c, d⟩
        · rw [if_pos (by omega)]
        · rw [if_neg (by omega), if_pos (by omega)]; exact decide_eq_true (by omega)
      rw [ht, r_j1_t]; rfl
    · have c' := c
      rw [hb] at c
      have ht : (if (i : Int) = 10 then true else if (i : Int) = 9 then decide (((b % 128 : Nat) : Int) > 1) else false) = false := by
        rw [if_neg (by omega)]
        split
        · exact decide_eq_false (by omega)
        · rfl
      rw [ht, r_j1_f]
      by_cases d : (b : Int) = 0 ∧ 0 < i
      · rw [num_form c' d, if_pos d.1, decide_eq_true (by omega), r_j2_t]; rfl
      · have ht2 : (if (b : Int) = 0 then decide ((i : Int) > 0) else false) = false := by
          split
          · exact decide_eq_false (by omega)
          · rfl
        rw [ht2, r_j2_f, add_step n (b % 128) i hn (by omega) (Nat.mod_lt _ (by decide)) (by intro h9; omega) st hst]
        by_cases c8 : (b : Int) < 128
        · rw [if_pos c8, num_last c' d c8, hb, hw.out, show wrap64 (((was + i : Nat) : Int) + 1) = ((was + (i + 1) : Nat) : Int) by unfold wrap64; omega]; rfl
        · rw [if_neg c8, num_more c' d c8, hb, show wrap64 ((i : Int) + 1) = ((i + 1 : Nat) : Int) by unfold wrap64; omega, show IntKind.u64.wrap ((st : Int) * 128) = ((st * 128 % 18446744073709551616 : Nat) : Int) by rw [wrap_u64']; omega]
          exact ih (i + 1) _ _ k hd2 (by omega) (step_lt n i b hn) (by rw [hst, Nat.pow_succ, Nat.mod_mul_mod]) (by omega) (by omega)
theorem rNumber_eq (s : List Int) (hs : Bs s) (hlen : s.length < 140737488355328) (at_ : Nat) (hat : at_ ≤ s.length) (k : Nat) (hk : 36 ≤ k) :
    towlineref01_Reader_Number.f k s (at_ : Int) 0 = resR at_ (num (s.drop at_)) := by
  unfold towlineref01_Reader_Number.f
  rw [if_pos rfl]
  exact rnumber_l0 s hs hlen at_ (s.drop at_) 0 0 1 k rfl (by decide) (by decide) (by decide) hat hk
end Go.Proofs.Ytleaiojilmkhaaa.Wire
