/- Fields in one word, and the fields of a word, in plain words; the given functions compute them. -/
import Derived.Test.YtjkllkbdmkkndaaPMaskUnpacksx
import Derived.Test.YtjkllkbdmkkndaaPlainA
namespace Go.Proofs.Ytjkllkbdmkkndaa.Pk
open Go Go.RowKit Go.Proofs.YtjkllkbdmkkndaaW.PrintWords Go.Proofs.YtjkllkbdmkkndaaW.PrintLast Go.Proofs.YtjkllkbdmkkndaaW.PrintMore Go.Proofs.Ytjkllkbdmkkndaa.Bits Go.Proofs.Ytjkllkbdmkkndaa.Ref
open Go.Proofs.Ytjkllkbdmkkndaa.PMaskUnpacks
set_option linter.unusedVariables false
def fitsOk (b v : Int) (s : Bool) : Bool :=
  decide (1 ≤ b) && decide (b ≤ 64) && (if s = true then decide (-(2 ^ (b.toNat - 1)) ≤ v) && decide (v < 2 ^ (b.toNat - 1)) else decide (0 ≤ v) && decide (v < 2 ^ b.toNat))
def wd (v : Int) : Nat := (v % 18446744073709551616).toNat
def packR : List S56 → Nat → Nat → Option Nat
  | [], w, _ => some w
  | f :: l, w, a => if fitsOk f.f0 f.f1 f.f2 = true ∧ f.f0 ≤ 64 - (a : Int) then packR l (w + (wd f.f1 % 2 ^ f.f0.toNat) * 2 ^ a) (a + f.f0.toNat) else none
def valR (w : Nat) (b : Nat) (s : Bool) : Int := if s = true then signedOf (w % 2 ^ b) b else wrap64 ((w % 2 ^ b : Nat) : Int)
def unpackR (w : Nat) : List S56 → Nat → List S56 → Option (List S56)
  | [], a, acc => if w / 2 ^ a = 0 then some acc else none
  | f :: l, a, acc => if 1 ≤ f.f0 ∧ f.f0 ≤ 64 - (a : Int) then
      (if f.f2 = false ∧ valR (w / 2 ^ a) f.f0.toNat f.f2 < 0 then none else unpackR w l (a + f.f0.toNat) (acc ++ [⟨f.f0, valR (w / 2 ^ a) f.f0.toNat f.f2, f.f2⟩])) else none
theorem shl_t (x n : Nat) (hn : n ≤ 64) : shl .u64 (x : Int) (n : Int) = ((x * 2 ^ n % 2 ^ 64 : Nat) : Int) := by
  unfold shl
  rw [Int.toNat_natCast, show IntKind.u64.bits = 64 from rfl, Nat.min_eq_left hn, show (x : Int) * 2 ^ n = ((x * 2 ^ n : Nat) : Int) from by push_cast; rfl, wrap_nat]
theorem shr_i64 (y : Int) (n : Nat) (hn : n ≤ 64) : shr .i64 y (n : Int) = y / ((2 ^ n : Nat) : Int) := by
  unfold shr
  rw [Int.toNat_natCast, show IntKind.i64.bits = 64 from rfl, Nat.min_eq_left hn]; push_cast; rfl
theorem shr_t (x n : Nat) (hn : n ≤ 64) : shr .u64 (x : Int) (n : Int) = ((x / 2 ^ n : Nat) : Int) := by
  unfold shr
  rw [Int.toNat_natCast, show IntKind.u64.bits = 64 from rfl, Nat.min_eq_left hn]; push_cast; rfl
theorem pow_i (n : Nat) : ((2 ^ n : Nat) : Int) = (2 : Int) ^ n := by push_cast; rfl
theorem div_zero_iff (v p : Int) (hp : 0 < p) : v / p = 0 ↔ 0 ≤ v ∧ v < p := by
  constructor
  · intro h
    have h1 : 0 ≤ v := by rw [← Int.zero_mul p]; exact (Int.le_ediv_iff_mul_le hp).1 (by omega)
    have h2 : v < 1 * p := (Int.ediv_lt_iff_lt_mul hp).1 (by omega)
    rw [Int.one_mul] at h2
    exact ⟨h1, h2⟩
  · rintro ⟨h1, h2⟩; exact Int.ediv_eq_zero_of_lt h1 h2
theorem div_neg_iff (v p : Int) (hp : 0 < p) : v / p = -1 ↔ -p ≤ v ∧ v < 0 := by
  constructor
  · intro h
    have h1 : (-1) * p ≤ v := (Int.le_ediv_iff_mul_le hp).1 (by omega)
    have h2 : v < 0 * p := (Int.ediv_lt_iff_lt_mul hp).1 (by omega)
    rw [Int.zero_mul] at h2
    exact ⟨by omega, h2⟩
  · rintro ⟨h1, h2⟩
    have h3 : -1 ≤ v / p := (Int.le_ediv_iff_mul_le hp).2 (by omega)
    have h4 : v / p < 0 := (Int.ediv_lt_iff_lt_mul hp).2 (by omega)
    omega
theorem pow_le63 (n : Nat) (h : n ≤ 63) : (2 : Int) ^ n ≤ 9223372036854775808 := by
  have := Nat.pow_le_pow_right (show 0 < 2 by decide) h
  rw [← pow_i]; omega
theorem pow_pos_i (n : Nat) : (0 : Int) < 2 ^ n := by rw [← pow_i]; have := Nat.two_pow_pos n; omega
theorem fits_given (b v : Int) (s : Bool) (k : Nat) (h0 : -9223372036854775808 ≤ v) (h1 : v ≤ 9223372036854775807) : mask_fits.f (k + 1) b v s = some (fitsOk b v s) := by
  unfold mask_fits.f fitsOk
  by_cases c1 : b < 1
  · rw [if_pos c1, mask_fits.j0, if_pos rfl, decide_eq_false (show ¬ 1 ≤ b by omega)]; simp
  · rw [if_neg c1, mask_fits.j0]
    by_cases c2 : b > 64
    · rw [if_pos (decide_eq_true c2), decide_eq_false (show ¬ b ≤ 64 by omega)]; simp
    · rw [if_neg (by simp; omega), decide_eq_true (show 1 ≤ b by omega), decide_eq_true (show b ≤ 64 by omega), Bool.true_and, Bool.true_and]
      obtain ⟨n, rfl⟩ := Int.eq_ofNat_of_zero_le (show 0 ≤ b by omega)
      rw [Int.toNat_natCast]
      cases s with
      | true =>
        have e : wrap64 ((n : Int) - 1) = ((n - 1 : Nat) : Int) := by unfold wrap64; omega
        rw [if_pos rfl, if_pos rfl, e, if_pos (by omega), shr_i64 _ _ (by omega)]
        congr 1
        have hp := pow_pos_i (n - 1)
        have hq := pow_le63 (n - 1) (by omega)
        rw [pow_i]
        generalize (2 : Int) ^ (n - 1) = p at *
        have d0 := div_zero_iff v p hp
        have d1 := div_neg_iff v p hp
        rw [Bool.eq_iff_iff, beq_iff_eq, Bool.and_eq_true, decide_eq_true_eq, decide_eq_true_eq]
        generalize v / p = q at *
        omega
      | false =>
        rw [if_neg (show ¬ (false = true) by decide)]
        rw [show (if false = true then decide (-2 ^ (n - 1) ≤ v) && decide (v < 2 ^ (n - 1)) else decide (0 ≤ v) && decide (v < 2 ^ n)) = (decide (0 ≤ v) && decide (v < 2 ^ n)) from rfl]
        by_cases c3 : (n : Int) = 64
        · rw [if_pos c3]
          obtain rfl : n = 64 := by omega
          congr 1
          rw [decide_eq_true (show v < 2 ^ 64 by omega), Bool.and_true]
        · rw [if_neg c3, if_pos (by omega), shr_i64 _ _ (by omega)]
          congr 1
          rw [pow_i, Bool.eq_iff_iff, beq_iff_eq, Bool.and_eq_true, decide_eq_true_eq, decide_eq_true_eq]
          exact div_zero_iff _ _ (pow_pos_i _)
theorem wd_lt (v : Int) : wd v < 2 ^ 64 := by unfold wd; omega
theorem wd_cast (v : Int) : IntKind.u64.wrap v = (wd v : Int) := by rw [wrap_u64]; unfold wd; omega
theorem cut_given (x b : Nat) (hx : x < 2 ^ 64) (h0 : 1 ≤ b) (h1 : b ≤ 64) : mask_cut.f (x : Int) (b : Int) = some ((x % 2 ^ b : Nat) : Int) := by
  unfold mask_cut.f
  have e : wrap64 (64 - (b : Int)) = ((64 - b : Nat) : Int) := by unfold wrap64; omega
  rw [e, if_pos (by omega), shl_t _ _ (by omega), shr_t _ _ (by omega)]
  congr 2
  have h2 : (2 : Nat) ^ 64 = 2 ^ b * 2 ^ (64 - b) := by rw [← Nat.pow_add]; congr 1; omega
  rw [h2, Nat.mul_mod_mul_right, Nat.mul_div_cancel _ (Nat.two_pow_pos _)]
theorem or_shift (w x a : Nat) (hw : w < 2 ^ a) : w ||| (x * 2 ^ a) = w + x * 2 ^ a := by
  apply Nat.eq_of_testBit_eq
  intro i
  rw [Nat.testBit_or, Nat.add_comm w, Nat.mul_comm, Nat.testBit_two_pow_mul_add _ hw, Nat.testBit_two_pow_mul]
  by_cases h : i < a
  · rw [if_pos h, decide_eq_false (by omega)]; simp
  · rw [if_neg h, decide_eq_true (by omega), Nat.testBit_lt_two_pow (Nat.lt_of_lt_of_le hw (Nat.pow_le_pow_right (by decide) (by omega)))]; simp
theorem put_lt (w x a b : Nat) (hw : w < 2 ^ a) : w + (x % 2 ^ b) * 2 ^ a < 2 ^ (a + b) := by
  have h1 : x % 2 ^ b + 1 ≤ 2 ^ b := Nat.mod_lt _ (Nat.two_pow_pos _)
  have h2 := Nat.mul_le_mul_right (2 ^ a) h1
  rw [Nat.add_mul, ← Nat.pow_add, Nat.one_mul, Nat.add_comm b a] at h2
  omega
def resP (o : Option Nat) : Int × Int := match o with | some w => ((w : Int), 0) | none => (0, 20)
def GF (f : S56) : Prop := -9223372036854775808 ≤ f.f1 ∧ f.f1 ≤ 9223372036854775807
theorem rd_at (l : List S56) (j : Nat) (h : j < l.length) : rd_T56 l (j : Int) = l[j] := by
  unfold rd_T56; rw [Int.toNat_natCast, List.getD_eq_getElem?_getD, List.getElem?_eq_getElem h]; rfl
theorem wrap_succ (j : Nat) (h : j < 1000000) : wrap64 ((j : Int) + 1) = ((j + 1 : Nat) : Int) := by unfold wrap64; omega
theorem pack_from (l : List S56) (hl : l.length ≤ 500) (hG : ∀ f ∈ l, GF f) : ∀ d (j w a : Nat), d = l.length - j → j ≤ l.length → a ≤ 64 → w < 2 ^ a → ∀ k, d < k → mask_Pack.l0 (k + 1) (w : Int) (a : Int) l (l.length : Int) (j : Int) = some (resP (packR (l.drop j) w a)) := by
  intro d
  induction d with
  | zero =>
    intro j w a hd hj ha hw k hk
    obtain rfl : j = l.length := by omega
    simp only [mask_Pack.l0]
    rw [if_neg (by omega), List.drop_length]; rfl
  | succ d ih =>
    intro j w a hd hj ha hw k hk
    have hlt : j < l.length := by omega
    obtain ⟨k, rfl⟩ : ∃ m, k = m + 1 := ⟨k - 1, by omega⟩
    have hg := hG _ (List.getElem_mem hlt)
    have hsub : wrap64 (64 - (a : Int)) = 64 - (a : Int) := by unfold wrap64; omega
    rw [mask_Pack.l0, if_pos (by omega), if_pos (by omega), if_pos (by omega), rd_at l j hlt, List.drop_eq_getElem_cons hlt]
    generalize l[j] = f at *
    rw [fits_given _ _ _ _ hg.1 hg.2, Option.bind_some, hsub]
    unfold packR
    by_cases c1 : fitsOk f.f0 f.f1 f.f2 = true
    · rw [if_pos c1]
      by_cases c2 : f.f0 ≤ 64 - (a : Int)
      · rw [if_neg (by omega), if_pos ⟨c1, c2⟩]
        have hb : 1 ≤ f.f0 := by
          unfold fitsOk at c1; simp at c1; exact c1.1.1
        obtain ⟨b, hbb⟩ := Int.eq_ofNat_of_zero_le (show 0 ≤ f.f0 by omega)
        rw [hbb] at hb c2 ⊢
        rw [wd_cast, cut_given _ _ (wd_lt _) (by omega) (by omega), Option.bind_some, if_pos (by omega), shl_t _ _ ha]
        have hlt2 := put_lt w (wd f.f1) a b hw
        have hle : (2 : Nat) ^ (a + b) ≤ 2 ^ 64 := Nat.pow_le_pow_right (by decide) (by omega)
        have hwa : w < 2 ^ 64 := Nat.lt_of_lt_of_le hw (Nat.pow_le_pow_right (by decide) ha)
        rw [Nat.mod_eq_of_lt (show wd f.f1 % 2 ^ b * 2 ^ a < 2 ^ 64 by omega), or_u64 _ _ hwa (by omega), or_shift _ _ _ hw, show wrap64 ((a : Int) + (b : Int)) = ((a + b : Nat) : Int) by unfold wrap64; omega, wrap_succ j (by omega), Int.toNat_natCast]
        exact ih (j + 1) _ (a + b) (by omega) (by omega) (by omega) hlt2 k (by omega)
      · rw [if_pos (by omega), if_neg (by omega)]; rfl
    · rw [if_neg c1, if_neg (fun h => c1 h.1)]; rfl
theorem pack_given (l : List S56) (hl : l.length ≤ 500) (hG : ∀ f ∈ l, GF f) : mask_Pack.f 502 l = some (resP (packR l 0 0)) := by
  have := pack_from l hl hG (l.length - 0) 0 0 0 rfl (by omega) (by omega) (by decide) 501 (by omega)
  rw [List.drop_zero] at this
  exact this
end Go.Proofs.Ytjkllkbdmkkndaa.Pk
