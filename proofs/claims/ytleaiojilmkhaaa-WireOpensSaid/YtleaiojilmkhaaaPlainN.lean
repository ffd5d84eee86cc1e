/- Plain laws of numbers as bytes: what Reader.Number reads. -/
import Derived.Laws.BitsLemmas
import Derived.Laws.Bits64b
import Derived.Test.YtleaiojilmkhaaaWBase
import Derived.Test.YtleaiojilmkhaaaWRef
namespace Go.Proofs.Ytleaiojilmkhaaa.Wire
open Go Go.RowKit Go.Proofs.YtleaiojilmkhaaaW.PrintWords Go.Proofs.YtleaiojilmkhaaaW.PrintLast Go.Proofs.YtleaiojilmkhaaaW.PrintMore
open Go.Proofs.Ytleaiojilmkhaaa.WBase
set_option linter.unusedVariables false

/-- Bytes: each element is one. -/
def Bs (l : List Int) : Prop := ∀ x ∈ l, 0 ≤ x ∧ x < 256
/-- A number read from bytes: the number, how many bytes it had, the error's number. -/
def numGo (i n : Nat) : List Int → Nat × Nat × Int
  | [] => (0, 0, 2)
  | x :: r => if i = 10 ∨ (i = 9 ∧ 1 < x.toNat % 128) then (0, 0, 5) else if x = 0 ∧ 0 < i then (0, 0, 10) else if x < 128 then (n + x.toNat % 128 * 128 ^ i, i + 1, 0) else numGo (i + 1) (n + x.toNat % 128 * 128 ^ i) r
def num (l : List Int) : Nat × Nat × Int := numGo 0 0 l
theorem and127 : ∀ a : Nat, a < 256 → Go.bits .and .u8 (a : Int) 127 = ((a % 128 : Nat) : Int) := by decide +kernel
theorem wrap_u64' (n : Int) : IntKind.u64.wrap n = n % 18446744073709551616 := by simp [IntKind.wrap, IntKind.bits, IntKind.signed]
theorem wrap_nat {m : Nat} (h : m < 18446744073709551616) : IntKind.u64.wrap (m : Int) = (m : Int) := by rw [wrap_u64']; omega
theorem or_shift (n low i : Nat) (hn : n < 128 ^ i) (hi : i ≤ 9) (hl : low < 128) (h9 : i = 9 → low ≤ 1) :
    Go.bits .or .u64 (n : Int) (shl .u64 (low : Int) ((7 * i : Nat) : Int)) = ((n + low * 128 ^ i : Nat) : Int) := by
  have e : (128 : Nat) ^ i = 2 ^ (7 * i) := by rw [Nat.pow_mul]
  have hlt : low * 128 ^ i < 18446744073709551616 := by
    rcases Nat.lt_or_ge i 9 with h | h
    · have : (128 : Nat) ^ i ≤ 128 ^ 8 := Nat.pow_le_pow_right (by decide) (by omega)
      calc low * 128 ^ i ≤ 127 * 128 ^ 8 := Nat.mul_le_mul (by omega) this
        _ < 18446744073709551616 := by decide
    · have : i = 9 := by omega
      subst this
      have := h9 rfl
      calc low * 128 ^ 9 ≤ 1 * 128 ^ 9 := Nat.mul_le_mul this (Nat.le_refl _)
        _ < 18446744073709551616 := by decide
  have hnl : n < 18446744073709551616 := by
    have : (128 : Nat) ^ i ≤ 128 ^ 9 := Nat.pow_le_pow_right (by decide) hi
    have : (128 : Nat) ^ 9 < 18446744073709551616 := by decide
    omega
  have hs : shl .u64 (low : Int) ((7 * i : Nat) : Int) = ((low * 128 ^ i : Nat) : Int) := by
    unfold shl
    rw [show min (((7 * i : Nat) : Int)).toNat IntKind.u64.bits = 7 * i by rw [Int.toNat_natCast]; exact Nat.min_eq_left (show 7 * i ≤ 64 by omega)]
    rw [show (2 : Int) ^ (7 * i) = ((128 ^ i : Nat) : Int) by rw [e, Int.natCast_pow]; rfl, ← Int.natCast_mul, wrap_nat hlt]
  rw [hs, bits_or_u64_nat n _ hnl hlt]
  congr 1
  rw [e] at hn ⊢
  have h := Nat.shiftLeft_add_eq_or_of_lt hn low
  rw [Nat.shiftLeft_eq] at h
  rw [Nat.or_comm, ← h, Nat.add_comm]

theorem rd_drop {s : List Int} {j : Nat} {x : Int} {r : List Int} (h : s.drop j = x :: r) : rd s (j : Int) = x ∧ j < s.length ∧ x ∈ s ∧ s.drop (j + 1) = r := by
  have hj : j < s.length := by
    rcases Nat.lt_or_ge j s.length with h1 | h1
    · exact h1
    · rw [List.drop_eq_nil_of_le h1] at h; cases h
  rw [List.drop_eq_getElem_cons hj] at h
  injection h with h1 h2
  refine ⟨?_, hj, h1 ▸ List.getElem_mem hj, h2⟩
  unfold rd
  rw [Int.toNat_natCast, List.getD_eq_getElem?_getD, List.getElem?_eq_getElem hj]; exact h1

/-- What Number tells of a state at 'was' that read 'q'. -/
def res (was : Nat) (q : Nat × Nat × Int) : Option (Int × Int × Int × Bool) := some (if q.2.2 = 0 then ((q.1 : Int), ((was + q.2.1 : Nat) : Int), 0, true) else (0, (was : Int), q.2.2, true))
theorem num_long {i n : Nat} {x : Int} {r : List Int} (c : i = 10 ∨ (i = 9 ∧ 1 < x.toNat % 128)) : numGo i n (x :: r) = (0, 0, 5) := by unfold numGo; rw [if_pos c]
theorem num_form {i n : Nat} {x : Int} {r : List Int} (c : ¬ (i = 10 ∨ (i = 9 ∧ 1 < x.toNat % 128))) (d : x = 0 ∧ 0 < i) : numGo i n (x :: r) = (0, 0, 10) := by unfold numGo; rw [if_neg c, if_pos d]
theorem num_last {i n : Nat} {x : Int} {r : List Int} (c : ¬ (i = 10 ∨ (i = 9 ∧ 1 < x.toNat % 128))) (d : ¬ (x = 0 ∧ 0 < i)) (h : x < 128) : numGo i n (x :: r) = (n + x.toNat % 128 * 128 ^ i, i + 1, 0) := by unfold numGo; rw [if_neg c, if_neg d, if_pos h]
theorem num_more {i n : Nat} {x : Int} {r : List Int} (c : ¬ (i = 10 ∨ (i = 9 ∧ 1 < x.toNat % 128))) (d : ¬ (x = 0 ∧ 0 < i)) (h : ¬ x < 128) : numGo i n (x :: r) = numGo (i + 1) (n + x.toNat % 128 * 128 ^ i) r := by rw [numGo, if_neg c, if_neg d, if_neg h]
theorem w_l0_end {k : Nat} {n was sh at_ : Int} {s : List Int} (h : at_ = (s.length : Int)) : wire_Reader_Number.l0 (k + 1) n was sh s at_ 0 true = some (0, was, 2, true) := by
  simp only [wire_Reader_Number.l0]; rw [if_pos h]; rfl
theorem w_l0 {k : Nat} {n was sh at_ : Int} {s : List Int} (h0 : 0 ≤ at_) (h1 : at_ < (s.length : Int)) : wire_Reader_Number.l0 (k + 1) n was sh s at_ 0 true = wire_Reader_Number.j1 k n was sh (rd s at_) (IntKind.u64.wrap (Go.bits .and .u8 (rd s at_) 127)) (if sh = 63 then (if (IntKind.u64.wrap (Go.bits .and .u8 (rd s at_) 127)) > 1 then true else decide (sh > 63)) else decide (sh > 63)) s (wrap64 (at_ + 1)) 0 true := by
  simp only [wire_Reader_Number.l0]; rw [if_neg (by omega), if_pos h0, if_pos h1]
  split
  · split <;> rfl
  · rfl
theorem w_j1_t {k : Nat} {n was sh x low at_ : Int} {s : List Int} : wire_Reader_Number.j1 (k + 1) n was sh x low true s at_ 0 true = some (0, was, 5, true) := by
  simp only [wire_Reader_Number.j1]; rw [if_pos trivial]; rfl
theorem w_j1_f {k : Nat} {n was sh x low at_ : Int} {s : List Int} : wire_Reader_Number.j1 (k + 1) n was sh x low false s at_ 0 true = wire_Reader_Number.j2 k n was sh x low (if x = 0 then decide (sh > 0) else false) s at_ 0 true := by
  simp only [wire_Reader_Number.j1]; rw [if_neg (by decide)]
  split <;> rfl
theorem w_j2_t {k : Nat} {n was sh x low at_ : Int} {s : List Int} : wire_Reader_Number.j2 (k + 1) n was sh x low true s at_ 0 true = some (0, was, 10, true) := by
  simp only [wire_Reader_Number.j2]; rw [if_pos trivial]; rfl
theorem w_j2_f {k : Nat} {n was sh x low at_ : Int} {s : List Int} (h : 0 ≤ sh) : wire_Reader_Number.j2 (k + 1) n was sh x low false s at_ 0 true = if x < 128 then some (Go.bits .or .u64 n (shl .u64 low sh), at_, 0, true) else wire_Reader_Number.l0 k (Go.bits .or .u64 n (shl .u64 low sh)) was (wrap64 (sh + 7)) s at_ 0 true := by
  simp only [wire_Reader_Number.j2]; rw [if_neg (by decide), if_pos h]
theorem step_lt (n i b : Nat) (hn : n < 128 ^ i) : n + b % 128 * 128 ^ i < 128 ^ (i + 1) := by
  rw [Nat.pow_succ]
  have h1 : b % 128 < 128 := Nat.mod_lt _ (by decide)
  calc n + b % 128 * 128 ^ i < 128 ^ i + b % 128 * 128 ^ i := by omega
    _ = (1 + b % 128) * 128 ^ i := by rw [Nat.add_mul, Nat.one_mul]
    _ ≤ 128 * 128 ^ i := Nat.mul_le_mul_right _ (by omega)
    _ = 128 ^ i * 128 := Nat.mul_comm _ _
theorem number_l0 (s : List Int) (hs : Bs s) (hlen : s.length < 140737488355328) (was : Nat) : ∀ (r : List Int) (i n k : Nat), s.drop (was + i) = r → i ≤ 10 → n < 128 ^ i → was + i ≤ s.length → 3 * (12 - i) ≤ k →
    wire_Reader_Number.l0 k (n : Int) (was : Int) ((7 * i : Nat) : Int) s ((was + i : Nat) : Int) 0 true = res was (numGo i n r) := by
  intro r
  induction r with
  | nil =>
    intro i n k hd hi hn hle hk
    obtain ⟨k, rfl⟩ : ∃ k', k = k' + 1 := ⟨k - 1, by omega⟩
    rw [w_l0_end (by have := List.drop_eq_nil_iff.1 hd; omega)]
    rfl
  | cons x r ih =>
    intro i n k hd hi hn hle hk
    obtain ⟨k, rfl⟩ : ∃ k', k = k' + 3 := ⟨k - 3, by omega⟩
    obtain ⟨hx, hlt, hmem, hd2⟩ := rd_drop hd
    obtain ⟨hx0, hx1⟩ := hs x hmem
    obtain ⟨b, rfl⟩ := Int.eq_ofNat_of_zero_le hx0
    have h0 : (0 : Int) ≤ ((was + i : Nat) : Int) := by omega
    have h1 : ((was + i : Nat) : Int) < (s.length : Int) := by omega
    have hx := Aside0.mk hx
    have hlow := Aside0.mk (show IntKind.u64.wrap (Go.bits .and .u8 (b : Int) 127) = ((b % 128 : Nat) : Int) by
      rw [and127 b (by omega), wrap_u64']; omega)
    have hw := Aside0.mk (show wrap64 (((was + i : Nat) : Int) + 1) = ((was + (i + 1) : Nat) : Int) by unfold wrap64; omega)
    rw [w_l0 h0 h1, hx.out, hlow.out, hw.out]
    clear hlow hw hx
    have hb : (b : Int).toNat = b := Int.toNat_natCast b
    by_cases c : i = 10 ∨ (i = 9 ∧ 1 < (b : Int).toNat % 128)
    · rw [num_long c]
      rw [hb] at c
      have ht : (if ((7 * i : Nat) : Int) = 63 then (if ((b % 128 : Nat) : Int) > 1 then true else decide (((7 * i : Nat) : Int) > 63)) else decide (((7 * i : Nat) : Int) > 63)) = true := by
        split
        · rw [if_pos (by omega)]
        · exact decide_eq_true (by omega)
      rw [ht, w_j1_t]; rfl
    · have c' := c
      rw [hb] at c
      have ht : (if ((7 * i : Nat) : Int) = 63 then (if ((b % 128 : Nat) : Int) > 1 then true else decide (((7 * i : Nat) : Int) > 63)) else decide (((7 * i : Nat) : Int) > 63)) = false := by
        split
        · rw [if_neg (by omega)]; exact decide_eq_false (by omega)
        · exact decide_eq_false (by omega)
      rw [ht, w_j1_f]
      by_cases d : (b : Int) = 0 ∧ 0 < i
      · rw [num_form c' d]
        have ht2 : (if (b : Int) = 0 then decide (((7 * i : Nat) : Int) > 0) else false) = true := by
          rw [if_pos d.1]; exact decide_eq_true (by omega)
        rw [ht2, w_j2_t]; rfl
      · have ht2 : (if (b : Int) = 0 then decide (((7 * i : Nat) : Int) > 0) else false) = false := by
          split
          · exact decide_eq_false (by omega)
          · rfl
        rw [ht2, w_j2_f (by omega), or_shift n (b % 128) i hn (by omega) (Nat.mod_lt _ (by decide)) (by intro h9; omega)]
        by_cases c8 : (b : Int) < 128
        · rw [if_pos c8, num_last c' d c8, hb]; rfl
        · rw [if_neg c8, num_more c' d c8, hb, show wrap64 (((7 * i : Nat) : Int) + 7) = ((7 * (i + 1) : Nat) : Int) by unfold wrap64; omega]
          exact ih (i + 1) _ k hd2 (by omega) (step_lt n i b hn) (by omega) (by omega)

theorem Number_eq (s : List Int) (hs : Bs s) (hlen : s.length < 140737488355328) (at_ : Nat) (hat : at_ ≤ s.length) (k : Nat) (hk : 36 ≤ k) :
    wire_Reader_Number.f k s (at_ : Int) 0 true = res at_ (num (s.drop at_)) := by
  unfold wire_Reader_Number.f wire_Reader_Err.f
  simp only [if_true, Option.bind_some]
  exact number_l0 s hs hlen at_ (s.drop at_) 0 0 k rfl (by decide) (by decide) hat hk
end Go.Proofs.Ytleaiojilmkhaaa.Wire
