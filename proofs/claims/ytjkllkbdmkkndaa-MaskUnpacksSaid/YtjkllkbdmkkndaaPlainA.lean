/- Plain lemmas: the lowest bits of a word as a number with a sign; a word with its bits the other way around. -/
import Derived.Test.YtjkllkbdmkkndaaRefC
namespace Go.Proofs.Ytjkllkbdmkkndaa.Ref
open Go Go.RowKit Go.Proofs.YtjkllkbdmkkndaaW.PrintWords Go.Proofs.YtjkllkbdmkkndaaW.PrintLast Go.Proofs.YtjkllkbdmkkndaaW.PrintMore Go.Proofs.Ytjkllkbdmkkndaa.Bits
theorem W_sg (x b : Nat) (h1 : 1 ≤ b) (h64 : b ≤ 64) : W (sgTo x b 64) = if x.testBit (b - 1) = true then 2 ^ b * (2 ^ (64 - b) - 1) + x % 2 ^ b else x % 2 ^ b := by
  have hm : x % 2 ^ b < 2 ^ b := Nat.mod_lt _ (Nat.two_pow_pos b)
  have hpb : 2 ^ b ≤ 2 ^ 64 := Nat.pow_le_pow_right (by decide) h64
  have hmul : 2 ^ b * 2 ^ (64 - b) = 2 ^ 64 := by rw [← Nat.pow_add]; congr 1; omega
  have hq : 0 < 2 ^ (64 - b) := Nat.two_pow_pos _
  by_cases hs : x.testBit (b - 1) = true
  · rw [if_pos hs]
    refine W_of ?_ (fun i hi => ?_)
    · have : 2 ^ b * (2 ^ (64 - b) - 1) = 2 ^ 64 - 2 ^ b := by rw [Nat.mul_sub_one, hmul]
      omega
    · rw [Nat.testBit_two_pow_mul_add _ hm]
      unfold sgTo
      by_cases h : i < b
      · rw [if_pos h, if_neg (by omega), Nat.testBit_mod_two_pow, decide_eq_true h, Bool.true_and]
      · rw [if_neg h, if_pos (by omega), hs, Nat.testBit_two_pow_sub_one]; simp; omega
  · rw [if_neg hs]
    refine W_of (by omega) (fun i hi => ?_)
    rw [Nat.testBit_mod_two_pow]
    unfold sgTo
    by_cases h : i < b
    · rw [if_neg (by omega), decide_eq_true h, Bool.true_and]
    · rw [if_pos (by omega), decide_eq_false h, Bool.false_and]; simpa using hs
theorem sign_bit (x b : Nat) (h1 : 1 ≤ b) : x.testBit (b - 1) = decide (2 ^ (b - 1) ≤ x % 2 ^ b) := by
  obtain ⟨c, rfl⟩ : ∃ c, b = c + 1 := ⟨b - 1, by omega⟩
  rw [Nat.add_sub_cancel, Nat.mod_pow_succ, Nat.testBit_eq_decide_div_mod_eq]
  have hl : x % 2 ^ c < 2 ^ c := Nat.mod_lt _ (Nat.two_pow_pos c)
  rcases Nat.mod_two_eq_zero_or_one (x / 2 ^ c) with h | h
  · rw [h]; simp; omega
  · rw [h]; simp
/-- The lowest bits of a word as a number with a sign. -/
theorem signedOf_eq (x b : Nat) (h1 : 1 ≤ b) (h64 : b ≤ 64) : signedOf x b = if x % 2 ^ b < 2 ^ (b - 1) then ((x % 2 ^ b : Nat) : Int) else ((x % 2 ^ b : Nat) : Int) - ((2 ^ b : Nat) : Int) := by
  unfold signedOf
  have hm : x % 2 ^ b < 2 ^ b := Nat.mod_lt _ (Nat.two_pow_pos b)
  have hpb : 2 ^ b ≤ 2 ^ 64 := Nat.pow_le_pow_right (by decide) h64
  have hp2 : 2 ^ b = 2 * 2 ^ (b - 1) := by rw [← Nat.pow_succ']; congr 1; omega
  have hmul : 2 ^ b * 2 ^ (64 - b) = 2 ^ 64 := by rw [← Nat.pow_add]; congr 1; omega
  rw [W_sg x b h1 h64, sign_bit x b h1]
  have hsub : 2 ^ b * (2 ^ (64 - b) - 1) = 2 ^ 64 - 2 ^ b := by rw [Nat.mul_sub_one, hmul]
  rw [hsub]
  generalize x % 2 ^ b = m at *
  generalize 2 ^ b = p at *
  generalize 2 ^ (b - 1) = h at *
  by_cases hc : m < h
  · rw [if_pos hc, if_neg (by simp; omega)]; unfold wrap64; omega
  · rw [if_neg hc, if_pos (by simp; omega)]; unfold wrap64; omega
/-- The same as the program reckons it: shifted up, and down again. -/
theorem signed_shift (x b : Nat) (h1 : 1 ≤ b) (h64 : b ≤ 64) : wrap64 (((x * 2 ^ (64 - b) % 2 ^ 64 : Nat) : Int)) / ((2 ^ (64 - b) : Nat) : Int) = signedOf x b := by
  rw [signedOf_eq x b h1 h64]
  have hm : x % 2 ^ b < 2 ^ b := Nat.mod_lt _ (Nat.two_pow_pos b)
  have hp2 : 2 ^ b = 2 * 2 ^ (b - 1) := by rw [← Nat.pow_succ']; congr 1; omega
  have hmul : 2 ^ b * 2 ^ (64 - b) = 2 ^ 64 := by rw [← Nat.pow_add]; congr 1; omega
  have hr : x * 2 ^ (64 - b) % 2 ^ 64 = x % 2 ^ b * 2 ^ (64 - b) := by rw [← hmul, Nat.mul_mod_mul_right]
  have hq : 0 < 2 ^ (64 - b) := Nat.two_pow_pos _
  rw [hr]
  generalize x % 2 ^ b = m at *
  generalize hh : 2 ^ (b - 1) = h at *
  generalize 2 ^ b = p at *
  generalize 2 ^ (64 - b) = q at *
  subst hp2
  have h63 : h * q = 2 ^ 63 := by have : 2 * (h * q) = 2 ^ 64 := by rw [← Nat.mul_assoc]; exact hmul
                                  omega
  by_cases hc : m < h
  · rw [if_pos hc]
    have : m * q < h * q := Nat.mul_lt_mul_of_pos_right hc hq
    rw [show wrap64 ((m * q : Nat) : Int) = (m : Int) * (q : Int) from by rw [← Int.natCast_mul]; unfold wrap64; omega]
    exact Int.mul_ediv_cancel _ (by omega)
  · rw [if_neg hc]
    have h2 : h * q ≤ m * q := Nat.mul_le_mul_right q (by omega)
    have h3 : m * q < 2 * h * q := Nat.mul_lt_mul_of_pos_right hm hq
    have e : wrap64 ((m * q : Nat) : Int) = ((m : Int) - ((2 * h : Nat) : Int)) * (q : Int) := by
      rw [Int.sub_mul, ← Int.natCast_mul, ← Int.natCast_mul, hmul]; unfold wrap64; omega
    rw [e]
    exact Int.mul_ediv_cancel _ (by omega)

/-! Flipped. -/
def swp (M s x : Nat) : Nat := (x / 2 ^ s &&& M) ||| ((x &&& M) * 2 ^ s)
theorem swp_bit (M s x i : Nat) (hM : M.testBit i = true ↔ i / s % 2 = 0) (hs : 0 < s) (hMs : s ≤ i → (M.testBit (i - s) = true ↔ (i - s) / s % 2 = 0)) :
    (swp M s x).testBit i = if i / s % 2 = 0 then x.testBit (i + s) else x.testBit (i - s) := by
  unfold swp
  rw [Nat.testBit_or, Nat.testBit_and, ← Nat.shiftRight_eq_div_pow, Nat.testBit_shiftRight, ← Nat.shiftLeft_eq, Nat.testBit_shiftLeft, Nat.testBit_and]
  by_cases h : i / s % 2 = 0
  · rw [if_pos h, hM.2 h, Bool.and_true, Nat.add_comm s i]
    by_cases hi : s ≤ i
    · have hd : (i - s) / s % 2 ≠ 0 := by
        have : i / s = (i - s) / s + 1 := by rw [← Nat.add_div_right _ hs, Nat.sub_add_cancel hi]
        omega
      have : M.testBit (i - s) = false := by
        cases hm : M.testBit (i - s) with
        | false => rfl
        | true => exact absurd ((hMs hi).1 hm) hd
      rw [this]; simp
    · rw [decide_eq_false (show ¬ i ≥ s by omega)]; simp
  · have hi : s ≤ i := by
      by_cases hlt : i < s
      · exact absurd (by rw [Nat.div_eq_of_lt hlt]) h
      · omega
    have hd : (i - s) / s % 2 = 0 := by
      have : i / s = (i - s) / s + 1 := by rw [← Nat.add_div_right _ hs, Nat.sub_add_cancel hi]
      omega
    have hm : M.testBit i = false := by
      cases hm : M.testBit i with
      | false => rfl
      | true => exact absurd (hM.1 hm) h
    rw [if_neg h, hm, (hMs hi).2 hd, decide_eq_true (show i ≥ s from hi)]; simp
def flipN (x : Nat) : Nat := swp 4294967295 32 (swp 281470681808895 16 (swp 71777214294589695 8 (swp 1085102592571150095 4 (swp 3689348814741910323 2 (swp 6148914691236517205 1 x)))))
theorem mask_table (M s : Nat) (h : ∀ i, i < 64 → (M.testBit i = true ↔ i / s % 2 = 0)) (hs : 0 < s) (x i : Nat) (hi : i < 64) :
    (swp M s x).testBit i = if i / s % 2 = 0 then x.testBit (i + s) else x.testBit (i - s) := swp_bit M s x i (h i hi) hs (fun _ => h (i - s) (by omega))
theorem t1 : ∀ i, i < 64 → ((6148914691236517205).testBit i = true ↔ i / 1 % 2 = 0) := by decide +kernel
theorem t2 : ∀ i, i < 64 → ((3689348814741910323).testBit i = true ↔ i / 2 % 2 = 0) := by decide +kernel
theorem t4 : ∀ i, i < 64 → ((1085102592571150095).testBit i = true ↔ i / 4 % 2 = 0) := by decide +kernel
theorem t8 : ∀ i, i < 64 → ((71777214294589695).testBit i = true ↔ i / 8 % 2 = 0) := by decide +kernel
theorem t16 : ∀ i, i < 64 → ((281470681808895).testBit i = true ↔ i / 16 % 2 = 0) := by decide +kernel
theorem t32 : ∀ i, i < 64 → ((4294967295).testBit i = true ↔ i / 32 % 2 = 0) := by decide +kernel
def sw (s i : Nat) : Nat := if i / s % 2 = 0 then i + s else i - s
theorem sw_bit (M s x : Nat) (h : ∀ i, i < 64 → (M.testBit i = true ↔ i / s % 2 = 0)) (hs : 0 < s) (i : Nat) (hi : i < 64) : (swp M s x).testBit i = x.testBit (sw s i) := by
  rw [mask_table M s h hs x i hi]; unfold sw
  by_cases c : i / s % 2 = 0
  · rw [if_pos c, if_pos c]
  · rw [if_neg c, if_neg c]
theorem sw_lt : ∀ i, i < 64 → sw 32 i < 64 ∧ sw 16 (sw 32 i) < 64 ∧ sw 8 (sw 16 (sw 32 i)) < 64 ∧ sw 4 (sw 8 (sw 16 (sw 32 i))) < 64 ∧ sw 2 (sw 4 (sw 8 (sw 16 (sw 32 i)))) < 64 ∧ sw 1 (sw 2 (sw 4 (sw 8 (sw 16 (sw 32 i))))) = 63 - i := by decide +kernel
theorem flipN_bit (x i : Nat) (hi : i < 64) : (flipN x).testBit i = x.testBit (63 - i) := by
  obtain ⟨h1, h2, h3, h4, h5, h6⟩ := sw_lt i hi
  unfold flipN
  rw [sw_bit _ 32 _ t32 (by decide) _ hi, sw_bit _ 16 _ t16 (by decide) _ h1, sw_bit _ 8 _ t8 (by decide) _ h2, sw_bit _ 4 _ t4 (by decide) _ h3, sw_bit _ 2 _ t2 (by decide) _ h4, sw_bit _ 1 _ t1 (by decide) _ h5, h6]
theorem swp_lt (M s x : Nat) (hM : M * 2 ^ s < 2 ^ 64) (hx : x < 2 ^ 64) : swp M s x < 2 ^ 64 := by
  unfold swp
  have h1 : (x / 2 ^ s &&& M) < 2 ^ 64 := Nat.lt_of_le_of_lt Nat.and_le_left (Nat.lt_of_le_of_lt (Nat.div_le_self _ _) hx)
  have h2 : (x &&& M) * 2 ^ s < 2 ^ 64 := Nat.lt_of_le_of_lt (Nat.mul_le_mul_right _ Nat.and_le_right) hM
  exact Nat.or_lt_two_pow h1 h2
theorem flipN_lt (x : Nat) (hx : x < 2 ^ 64) : flipN x < 2 ^ 64 := swp_lt _ _ _ (by decide) (swp_lt _ _ _ (by decide) (swp_lt _ _ _ (by decide) (swp_lt _ _ _ (by decide) (swp_lt _ _ _ (by decide) (swp_lt _ _ _ (by decide) hx)))))
theorem flipN_flipN (x : Nat) (hx : x < 2 ^ 64) : flipN (flipN x) = x :=
  word_ext (flipN_lt _ (flipN_lt x hx)) hx (fun i hi => by rw [flipN_bit _ i hi, flipN_bit _ _ (by omega)]; congr 1; omega)
theorem flipN_eq (x : Nat) (hx : x < 2 ^ 64) : W (flipTo x 64) = flipN x :=
  W_of (flipN_lt x hx) (fun i hi => by rw [flipN_bit x i hi]; unfold flipTo; rw [decide_eq_true hi, Bool.true_and])
theorem cnt_flip (x y : Nat) (h : ∀ i, i < 64 → y.testBit i = x.testBit (63 - i)) : ∀ k, k ≤ 64 → cnt y k + cnt x (64 - k) = cnt x 64
  | 0, _ => by simp [cnt]
  | k + 1, hk => by
    have ih := cnt_flip x y h k (by omega)
    have e : 64 - k = (64 - (k + 1)) + 1 := by omega
    have hb := h k (by omega)
    rw [e] at ih
    simp only [cnt] at ih ⊢
    rw [hb, show 63 - k = 64 - (k + 1) from by omega]
    omega
theorem cnt_flipN (x : Nat) : cnt (flipN x) 64 = cnt x 64 := by
  have := cnt_flip x (flipN x) (flipN_bit x) 64 (by omega)
  simpa [cnt] using this
/-- One exchange, as the program reckons it. -/
theorem swpI (M s x : Nat) (p : Int) (hp : p = ((2 ^ s : Nat) : Int)) (hM : M * 2 ^ s < 2 ^ 64) (hx : x < 2 ^ 64) :
    Go.bits .or .u64 (Go.bits .and .u64 ((x : Int) / p) (M : Int)) (IntKind.u64.wrap ((Go.bits .and .u64 (x : Int) (M : Int)) * p)) = ((swp M s x : Nat) : Int) := by
  subst hp
  have hq : 0 < 2 ^ s := Nat.two_pow_pos s
  have hM' : M < 2 ^ 64 := Nat.lt_of_le_of_lt (Nat.le_mul_of_pos_right M hq) hM
  have h2 : (x &&& M) * 2 ^ s < 2 ^ 64 := Nat.lt_of_le_of_lt (Nat.mul_le_mul_right _ Nat.and_le_right) hM
  have h1 : (x / 2 ^ s &&& M) < 2 ^ 64 := Nat.lt_of_le_of_lt Nat.and_le_left (Nat.lt_of_le_of_lt (Nat.div_le_self _ _) hx)
  rw [← Int.natCast_ediv, and_u64 _ _ (Nat.lt_of_le_of_lt (Nat.div_le_self _ _) hx) hM', and_u64 _ _ hx hM', ← Int.natCast_mul, wrap_nat, Nat.mod_eq_of_lt h2, or_u64 _ _ h1 h2]
  rfl
/-- The last one: both halves. -/
theorem swp_last (x : Nat) (hx : x < 2 ^ 64) : Go.bits .or .u64 ((x : Int) / 4294967296) (IntKind.u64.wrap ((x : Int) * 4294967296)) = ((swp 4294967295 32 x : Nat) : Int) := by
  have h1 : x / 4294967296 &&& 4294967295 = x / 4294967296 := by
    rw [show (4294967295 : Nat) = 2 ^ 32 - 1 from rfl, Nat.and_two_pow_sub_one_eq_mod]; omega
  have h2 : x * 4294967296 % 2 ^ 64 = (x &&& 4294967295) * 4294967296 := by
    rw [show (4294967295 : Nat) = 2 ^ 32 - 1 from rfl, Nat.and_two_pow_sub_one_eq_mod]; omega
  rw [show (x : Int) / 4294967296 = ((x / 4294967296 : Nat) : Int) from by omega, show (x : Int) * 4294967296 = ((x * 4294967296 : Nat) : Int) from by omega, wrap_nat, or_u64 _ _ (by omega) (Nat.mod_lt _ (by decide)), h2]
  unfold swp
  rw [show (2 : Nat) ^ 32 = 4294967296 from rfl, h1]
end Go.Proofs.Ytjkllkbdmkkndaa.Ref
