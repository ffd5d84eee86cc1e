/- Plain laws of records: what Seal makes, what Open tells of it. -/
import Derived.Test.YtleaiojilmkhaaaOpen
import Derived.Test.YtleaiojilmkhaaaPlainT
namespace Go.Proofs.Ytleaiojilmkhaaa.Wire
open Go Go.RowKit Go.Proofs.YtleaiojilmkhaaaW.PrintWords Go.Proofs.YtleaiojilmkhaaaW.PrintLast Go.Proofs.YtleaiojilmkhaaaW.PrintMore
set_option linter.unusedVariables false
theorem xor_ones32 (a : Nat) (h : a < 4294967296) : 4294967295 ^^^ a = 4294967295 - a := by
  apply Nat.eq_of_testBit_eq
  intro i
  rw [Nat.testBit_xor, show (4294967295 : Nat) = 2 ^ 32 - 1 from rfl, Nat.testBit_two_pow_sub_one, show 2 ^ 32 - 1 - a = 2 ^ 32 - (a + 1) by omega, Nat.testBit_two_pow_sub_succ (show a < 2 ^ 32 from h)]
  by_cases hi : i < 32
  · rw [decide_eq_true hi]; cases a.testBit i <;> rfl
  · rw [decide_eq_false hi, Nat.testBit_lt_two_pow (Nat.lt_of_lt_of_le (show a < 2 ^ 32 from h) (Nat.pow_le_pow_right (by decide) (by omega)))]; rfl
theorem enc_small (f : Nat) {n : Nat} (h : n < 128) : enc f n = [(n : Int)] := by
  cases f with
  | zero => rfl
  | succ f => unfold enc; rw [if_pos h]
theorem enc_big (f : Nat) {n : Nat} (h : ¬ n < 128) : enc (f + 1) n = (128 + (n : Int) % 128) :: enc f (n / 128) := by
  show (if n < 128 then _ else _) = _
  rw [if_neg h]
theorem div_lt {f n : Nat} (h : n < 128 ^ (f + 1 + 1)) : n / 128 < 128 ^ (f + 1) := by
  rw [Nat.pow_succ] at h
  exact (Nat.div_lt_iff_lt_mul (by decide)).2 h
theorem enc_bs (f : Nat) : ∀ n, n < 128 ^ (f + 1) → Bs (enc f n) := by
  induction f with
  | zero => intro n h x hx; simp [enc] at hx; omega
  | succ f ih =>
    intro n h x hx
    by_cases c : n < 128
    · rw [enc_small _ c] at hx; simp at hx; omega
    · rw [enc_big _ c] at hx
      rcases List.mem_cons.1 hx with rfl | hx
      · omega
      · exact ih _ (div_lt h) x hx
theorem pow10 {n : Nat} (h : n < 18446744073709551616) : n < 128 ^ (9 + 1) := Nat.lt_trans h (by decide)
theorem enc64_bs {n : Nat} (h : n < 18446744073709551616) : Bs (enc 9 n) := enc_bs 9 n (pow10 h)
theorem Bs.app {a b : List Int} (ha : Bs a) (hb : Bs b) : Bs (a ++ b) := fun x hx => (List.mem_append.1 hx).elim (ha x) (hb x)
theorem four_bs (a : Int) : Bs (fourP a) := by intro x hx; simp [fourP] at hx; omega
theorem four_len (a : Int) : (fourP a).length = 4 := rfl
theorem four_inj {a b : Int} (ha : 0 ≤ a ∧ a < 4294967296) (hb : 0 ≤ b ∧ b < 4294967296) (h : fourP a = fourP b) : a = b := by
  simp only [fourP, List.cons.injEq, and_true] at h
  omega
theorem four_ref {t : Int} (h : 0 ≤ t ∧ t < 4294967296) : [((Int.tdiv t 16777216) % 4294967296) % 256, ((Int.tdiv t 65536) % 4294967296) % 256, ((Int.tdiv t 256) % 4294967296) % 256, (Int.tmod t 256) % 256] = fourP t := by
  rw [Int.tdiv_eq_ediv_of_nonneg h.1, Int.tdiv_eq_ediv_of_nonneg h.1, Int.tdiv_eq_ediv_of_nonneg h.1, Int.tmod_eq_emod_of_nonneg h.1]
  unfold fourP
  simp only [List.cons.injEq, and_true]
  omega
/-- Bytes, how many ahead of them; their record. -/
def recP (l : List Int) : List Int := enc 9 l.length ++ l
def sealP (l : List Int) : List Int := recP l ++ fourP (sumP (recP l))
theorem rec_bs {l : List Int} (h : Bs l) (hl : l.length < 18446744073709551616) : Bs (recP l) := (enc64_bs hl).app h
theorem seal_bs {l : List Int} (h : Bs l) (hl : l.length < 18446744073709551616) : Bs (sealP l) := (rec_bs h hl).app (four_bs _)
theorem seal_len (l : List Int) : (sealP l).length = (enc 9 l.length).length + l.length + 4 := by unfold sealP recP; rw [List.length_append, List.length_append]; rfl
/-! ### a number is read as it was put -/
theorem numGo_enc (r : List Int) : ∀ (f i n acc : Nat), i + f = 9 → n < 128 ^ (f + 1) → (0 < n ∨ i = 0) → acc + n * 128 ^ i < 18446744073709551616 → numGo i acc (enc f n ++ r) = (acc + n * 128 ^ i, i + (enc f n).length, 0) := by
  intro f
  induction f with
  | zero =>
    intro i n acc hi hn h0 h9
    obtain rfl : i = 9 := by omega
    have h1 : n ≤ 1 := by
      rcases Nat.lt_or_ge 1 n with h | h
      · exfalso
        have h2 : 2 * 128 ^ 9 ≤ n * 128 ^ 9 := Nat.mul_le_mul_right _ h
        have h3 : 2 * 128 ^ 9 = 18446744073709551616 := by decide
        omega
      · exact h
    rw [enc_small 0 (show n < 128 by omega), List.singleton_append, num_last (by rw [Int.toNat_natCast]; omega) (by omega) (by omega), Int.toNat_natCast, Nat.mod_eq_of_lt (show n < 128 by omega)]
    rfl
  | succ f ih =>
    intro i n acc hi hn h0 h9
    by_cases c : n < 128
    · rw [enc_small _ c, List.singleton_append, num_last (by omega) (by omega) (by omega), Int.toNat_natCast, Nat.mod_eq_of_lt c]
      rfl
    · have ht : (128 + (n : Int) % 128).toNat % 128 = n % 128 := by omega
      have hs : acc + n % 128 * 128 ^ i + n / 128 * 128 ^ (i + 1) = acc + n * 128 ^ i := by
        have h1 : n * 128 ^ i = (n % 128 + 128 * (n / 128)) * 128 ^ i := by rw [Nat.mod_add_div]
        rw [h1, Nat.add_mul, Nat.pow_succ, Nat.mul_comm 128 (n / 128), Nat.mul_assoc (n / 128) 128, Nat.mul_comm 128 (128 ^ i), Nat.add_assoc]
      rw [enc_big f c, List.cons_append, num_more (by omega) (by omega) (by omega), ht, ih (i + 1) (n / 128) _ (by omega) (div_lt hn) (by omega) (by rw [hs]; exact h9), hs, List.length_cons]
      refine Prod.ext rfl (Prod.ext ?_ rfl)
      show i + 1 + (enc f (n / 128)).length = i + ((enc f (n / 128)).length + 1)
      omega
theorem num_enc (n : Nat) (r : List Int) (h : n < 18446744073709551616) : num (enc 9 n ++ r) = (n, (enc 9 n).length, 0) := by
  have h1 := numGo_enc r 9 0 n 0 rfl (pow10 h) (.inr rfl) (by omega)
  unfold num
  rw [h1]
  rw [Nat.pow_zero, Nat.mul_one, Nat.zero_add, Nat.zero_add]
/-- A number that is cut off is too short. -/
theorem numGo_cut : ∀ (f i n acc m : Nat), i + f = 9 → n < 128 ^ (f + 1) → (0 < n ∨ i = 0) → m < (enc f n).length → numGo i acc ((enc f n).take m) = (0, 0, 2) := by
  intro f
  induction f with
  | zero =>
    intro i n acc m hi hn h0 hm
    obtain rfl : m = 0 := by simp [enc] at hm; exact hm
    rfl
  | succ f ih =>
    intro i n acc m hi hn h0 hm
    cases m with
    | zero => rfl
    | succ m =>
      by_cases c : n < 128
      · rw [enc_small _ c] at hm; simp at hm
      · rw [enc_big f c] at hm ⊢
        rw [List.take_succ_cons, num_more (by omega) (by omega) (by omega)]
        exact ih (i + 1) _ _ m (by omega) (div_lt hn) (by omega) (by simpa using hm)
theorem num_cut (n m : Nat) (h : n < 18446744073709551616) (hm : m < (enc 9 n).length) : num ((enc 9 n).take m) = (0, 0, 2) :=
  numGo_cut 9 0 n 0 m rfl (pow10 h) (.inr rfl) hm
end Go.Proofs.Ytleaiojilmkhaaa.Wire
