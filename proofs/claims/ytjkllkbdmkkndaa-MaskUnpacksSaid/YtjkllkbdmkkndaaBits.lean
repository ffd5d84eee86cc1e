/- Plain lemmas on words as sets of bits: how many bits are below a place, and the count by halves. -/
import Derived.Laws.BitsLemmas
import Derived.Test.YtjkllkbdmkkndaaWMore
namespace Go.Proofs.Ytjkllkbdmkkndaa.Bits
open Go Go.RowKit Go.Proofs.YtjkllkbdmkkndaaW.PrintMore

theorem wrap_u64 (n : Int) : IntKind.u64.wrap n = n % 18446744073709551616 := by simp [IntKind.wrap, IntKind.bits, IntKind.signed]
theorem wraps_u64 (n : Int) (h0 : 0 ≤ n) (h1 : n < 2 ^ 64) : IntKind.u64.wrap n = n := by rw [wrap_u64]; omega
theorem and_u64 (a b : Nat) (ha : a < 2 ^ 64) (hb : b < 2 ^ 64) : Go.bits .and .u64 (a : Int) (b : Int) = ((a &&& b : Nat) : Int) :=
  (bits_nat .u64 64 (by decide) wraps_u64 a b ha hb).1
theorem or_u64 (a b : Nat) (ha : a < 2 ^ 64) (hb : b < 2 ^ 64) : Go.bits .or .u64 (a : Int) (b : Int) = ((a ||| b : Nat) : Int) :=
  (bits_nat .u64 64 (by decide) wraps_u64 a b ha hb).2
theorem wrap_nat (a : Nat) : IntKind.u64.wrap (a : Int) = ((a % 2 ^ 64 : Nat) : Int) := by rw [wrap_u64]; omega

theorem wf_u64 {a : Int} (h : (Lit.int .u64 a).wf = true) : 0 ≤ a ∧ a < 2 ^ 64 := by
  simp only [Lit.wf, Bool.and_eq_true, decide_eq_true_eq] at h
  rw [show IntKind.u64.min = 0 from by decide, show IntKind.u64.max = 18446744073709551615 from by decide] at h
  omega
theorem wf_i64 {a : Int} (h : (Lit.int .i64 a).wf = true) : -9223372036854775808 ≤ a ∧ a ≤ 9223372036854775807 := by
  simp only [Lit.wf, Bool.and_eq_true, decide_eq_true_eq] at h
  rw [show IntKind.i64.min = -9223372036854775808 from by decide, show IntKind.i64.max = 9223372036854775807 from by decide] at h
  omega
/-- How many of a word's bits below a place are set. -/
def cnt (x : Nat) : Nat → Nat
  | 0 => 0
  | n + 1 => cnt x n + (x.testBit n).toNat

theorem cnt_zero (n : Nat) : cnt 0 n = 0 := by
  induction n with
  | zero => rfl
  | succ n ih => simp [cnt, ih]
theorem cnt_congr {x y : Nat} : ∀ n, (∀ i, i < n → x.testBit i = y.testBit i) → cnt x n = cnt y n
  | 0, _ => rfl
  | n + 1, h => by simp only [cnt]; rw [cnt_congr n (fun i hi => h i (by omega)), h n (by omega)]
theorem cnt_add (x m : Nat) : ∀ n, cnt x (m + n) = cnt x m + cnt (x / 2 ^ m) n
  | 0 => by simp [cnt]
  | n + 1 => by
    have : (x / 2 ^ m).testBit n = x.testBit (m + n) := by rw [← Nat.shiftRight_eq_div_pow, Nat.testBit_shiftRight]
    rw [← Nat.add_assoc]; simp only [cnt]; rw [cnt_add x m n, this]; omega
theorem cnt_mod (x n m : Nat) (h : m ≤ n) : cnt (x % 2 ^ n) m = cnt x m :=
  cnt_congr m fun i hi => by rw [Nat.testBit_mod_two_pow]; simp; omega
theorem cnt_above (x n : Nat) (h : x < 2 ^ n) : ∀ m, n ≤ m → cnt x m = cnt x n
  | 0, hm => by obtain rfl : n = 0 := by omega
                rfl
  | m + 1, hm => by
    by_cases e : n = m + 1
    · subst e; rfl
    · have : x.testBit m = false := Nat.testBit_lt_two_pow (Nat.lt_of_lt_of_le h (Nat.pow_le_pow_right (by decide) (by omega)))
      simp only [cnt]; rw [cnt_above x n h m (by omega), this]; rfl
theorem cnt_mod_above (x n m : Nat) (h : n ≤ m) : cnt (x % 2 ^ n) m = cnt x n := by
  rw [cnt_above (x % 2 ^ n) n (Nat.mod_lt _ (Nat.two_pow_pos n)) m h, cnt_mod x n n (Nat.le_refl n)]
theorem cnt_mono (x : Nat) {m n : Nat} (h : m ≤ n) : cnt x m ≤ cnt x n := by
  obtain ⟨d, rfl⟩ : ∃ d, n = m + d := ⟨n - m, by omega⟩
  rw [cnt_add]; omega
theorem cnt_le (x : Nat) : ∀ n, cnt x n ≤ n
  | 0 => Nat.le_refl _
  | n + 1 => by simp only [cnt]; have := cnt_le x n; have : (x.testBit n).toNat ≤ 1 := Bool.toNat_le _; omega
theorem cnt_lt (x : Nat) {m n : Nat} (h : m < n) (hb : x.testBit m = true) : cnt x m < cnt x n := by
  have := cnt_mono x (show m + 1 ≤ n from h)
  have e : cnt x (m + 1) = cnt x m + 1 := by simp [cnt, hb]
  omega
/-- The place of a bit is told by how many are below it. -/
theorem cnt_inj (x : Nat) {m n : Nat} (hm : x.testBit m = true) (hn : x.testBit n = true) (h : cnt x m = cnt x n) : m = n := by
  rcases Nat.lt_trichotomy m n with l | l | l
  · have := cnt_lt x l hm; omega
  · exact l
  · have := cnt_lt x l hn; omega

theorem cnt_or_and (x y : Nat) : ∀ n, cnt (x ||| y) n + cnt (x &&& y) n = cnt x n + cnt y n
  | 0 => rfl
  | n + 1 => by
    have := cnt_or_and x y n
    simp only [cnt, Nat.testBit_or, Nat.testBit_and]
    cases x.testBit n <;> cases y.testBit n <;> simp <;> omega
theorem cnt_sub {x y : Nat} (h : ∀ i, x.testBit i = true → y.testBit i = true) : ∀ n, cnt x n ≤ cnt y n
  | 0 => Nat.le_refl _
  | n + 1 => by
    have := cnt_sub h n
    have h1 := h n
    simp only [cnt]
    cases hx : x.testBit n <;> cases hy : y.testBit n <;> simp_all <;> omega
theorem share (s t u n : Nat) (h1 : cnt u n < cnt (s &&& u) n * 2) (h2 : cnt u n < cnt (t &&& u) n * 2) : 0 < cnt (s &&& t &&& u) n := by
  have h3 := cnt_or_and (s &&& u) (t &&& u) n
  have h4 : cnt ((s &&& u) ||| (t &&& u)) n ≤ cnt u n := cnt_sub (fun i hi => by simp only [Nat.testBit_or, Nat.testBit_and] at hi; cases hu : u.testBit i <;> simp_all) n
  have h5 : cnt ((s &&& u) &&& (t &&& u)) n = cnt (s &&& t &&& u) n := cnt_congr n (fun i _ => by simp only [Nat.testBit_and]; cases s.testBit i <;> cases t.testBit i <;> cases u.testBit i <;> rfl)
  omega

/-! The count by halves. -/
def rep (m : Nat) : Nat → Nat
  | 0 => 0
  | n + 1 => m + 256 * rep m n
theorem and_split (x m r : Nat) (hm : m < 256) : x &&& (m + 256 * r) = (x % 256 &&& m) + 256 * (x / 256 &&& r) := by
  have h1 : (x &&& (m + 256 * r)) % 2 ^ 8 = (x % 2 ^ 8) &&& ((m + 256 * r) % 2 ^ 8) := Nat.and_mod_two_pow
  have h2 : (x &&& (m + 256 * r)) / 2 ^ 8 = (x / 2 ^ 8) &&& ((m + 256 * r) / 2 ^ 8) := Nat.and_div_two_pow
  have e1 : (m + 256 * r) % 2 ^ 8 = m := by omega
  have e2 : (m + 256 * r) / 2 ^ 8 = r := by omega
  rw [e1] at h1; rw [e2] at h2
  have := Nat.div_add_mod (x &&& (m + 256 * r)) (2 ^ 8)
  rw [h1, h2] at this
  simp only [Nat.reducePow] at this
  omega
def p1 (n x : Nat) : Nat := x - (x / 2 &&& rep 85 n)
def p2 (n x : Nat) : Nat := (x &&& rep 51 n) + (x / 4 &&& rep 51 n)
def p3 (n x : Nat) : Nat := (x + x / 16) &&& rep 15 n
theorem b1 : ∀ a, a < 256 → ∀ c, c < 2 → (a / 2 + 128 * c) &&& 85 = a / 2 &&& 85 := by decide +kernel
theorem b2 : ∀ a, a < 256 → ∀ c, c < 4 → (a / 4 + 64 * c) &&& 51 = a / 4 &&& 51 := by decide +kernel
theorem b3 : ∀ a, a < 256 → ∀ c, c < 16 → a + a / 16 + 16 * c < 256 → (a + a / 16 + 16 * c) &&& 15 = (a + a / 16) &&& 15 := by decide +kernel
theorem p1_step (n a y : Nat) (ha : a < 256) : p1 (n + 1) (a + 256 * y) = (a - (a / 2 &&& 85)) + 256 * p1 n y := by
  unfold p1
  have e1 : (a + 256 * y) / 2 % 256 = a / 2 + 128 * (y % 2) := by omega
  have e2 : (a + 256 * y) / 2 / 256 = y / 2 := by omega
  rw [show rep 85 (n + 1) = 85 + 256 * rep 85 n from rfl, and_split _ _ _ (by decide), e1, e2, b1 a ha (y % 2) (by omega)]
  have h1 : (a / 2 &&& 85) ≤ a / 2 := Nat.and_le_left
  have h2 : (y / 2 &&& rep 85 n) ≤ y / 2 := Nat.and_le_left
  omega
theorem p2_step (n a y : Nat) (ha : a < 256) : p2 (n + 1) (a + 256 * y) = ((a &&& 51) + (a / 4 &&& 51)) + 256 * p2 n y := by
  unfold p2
  have e1 : (a + 256 * y) / 4 % 256 = a / 4 + 64 * (y % 4) := by omega
  have e2 : (a + 256 * y) / 4 / 256 = y / 4 := by omega
  have e3 : (a + 256 * y) % 256 = a := by omega
  have e4 : (a + 256 * y) / 256 = y := by omega
  rw [show rep 51 (n + 1) = 51 + 256 * rep 51 n from rfl, and_split _ _ _ (by decide), and_split ((a + 256 * y) / 4) _ _ (by decide), e1, e2, e3, e4, b2 a ha (y % 4) (by omega)]
  omega
theorem p3_step (n a y : Nat) (ha : a % 16 ≤ 4) (hb : a / 16 ≤ 4) (hy : y % 16 ≤ 4) : p3 (n + 1) (a + 256 * y) = ((a + a / 16) &&& 15) + 256 * p3 n y := by
  unfold p3
  have e1 : (a + 256 * y + (a + 256 * y) / 16) % 256 = a + a / 16 + 16 * (y % 16) := by omega
  have e2 : (a + 256 * y + (a + 256 * y) / 16) / 256 = y + y / 16 := by omega
  rw [show rep 15 (n + 1) = 15 + 256 * rep 15 n from rfl, and_split _ _ _ (by decide), e1, e2, b3 a (by omega) (y % 16) (by omega) (by omega)]
def g1 (a : Nat) : Nat := a - (a / 2 &&& 85)
def g2 (a : Nat) : Nat := (g1 a &&& 51) + (g1 a / 4 &&& 51)
def g3 (a : Nat) : Nat := (g2 a + g2 a / 16) &&& 15
theorem g_table : ∀ a, a < 256 → g1 a < 256 ∧ g2 a % 16 ≤ 4 ∧ g2 a / 16 ≤ 4 ∧ g3 a = cnt a 8 := by decide +kernel
def q (n x : Nat) : Nat := p2 n (p1 n x)
theorem rep_zero (x m : Nat) : x &&& rep m 0 = 0 := by simp [rep]
theorem q_step (n a y : Nat) (ha : a < 256) : q (n + 1) (a + 256 * y) = g2 a + 256 * q n y := by
  unfold q
  rw [p1_step n a y ha, show a - (a / 2 &&& 85) = g1 a from rfl, p2_step n (g1 a) _ (g_table a ha).1]; rfl
theorem q_low (n x : Nat) : q n x % 16 ≤ 4 := by
  cases n with
  | zero => simp [q, p2, rep_zero]
  | succ n =>
    have hx : x = x % 256 + 256 * (x / 256) := by omega
    have hl : x % 256 < 256 := by omega
    rw [hx, q_step n _ _ hl]
    have := (g_table _ hl).2.1
    omega
def F (n x : Nat) : Nat := p3 n (q n x)
theorem F_step (n a y : Nat) (ha : a < 256) : F (n + 1) (a + 256 * y) = cnt a 8 + 256 * F n y := by
  unfold F
  obtain ⟨_, h2, h3, h4⟩ := g_table a ha
  rw [q_step n a y ha, p3_step n _ _ h2 h3 (q_low n y), ← h4]; rfl
theorem F_succ (n x : Nat) : F (n + 1) x = cnt x 8 + 256 * F n (x / 256) := by
  have hx : x = x % 256 + 256 * (x / 256) := by omega
  rw [← cnt_mod x 8 8 (by decide)]
  conv => lhs; rw [hx]
  rw [F_step n _ _ (by omega)]
theorem F_zero (x : Nat) : F 0 x = 0 := by simp [F, p3, rep_zero]
theorem cnt_split (x n : Nat) : cnt x (8 + n) = cnt x 8 + cnt (x / 256) n := by rw [cnt_add]
theorem fin_ (X hi s lo : Nat) (h : X = 18446744073709551616 * hi + (72057594037927936 * s + lo)) (hs : s ≤ 64) (hl : lo < 72057594037927936) : X % 18446744073709551616 / 72057594037927936 = s := by
  rw [h, Nat.mul_add_mod, Nat.mod_eq_of_lt (by omega), Nat.mul_add_div (by decide), Nat.div_eq_of_lt hl]; rfl
theorem sum8 (c0 c1 c2 c3 c4 c5 c6 c7 : Nat) (h0 : c0 ≤ 8) (h1 : c1 ≤ 8) (h2 : c2 ≤ 8) (h3 : c3 ≤ 8) (h4 : c4 ≤ 8) (h5 : c5 ≤ 8) (h6 : c6 ≤ 8) (h7 : c7 ≤ 8) :
    (c0 + 256 * (c1 + 256 * (c2 + 256 * (c3 + 256 * (c4 + 256 * (c5 + 256 * (c6 + 256 * (c7 + 256 * 0)))))))) * 72340172838076673 % 18446744073709551616 / 72057594037927936 = c0 + (c1 + (c2 + (c3 + (c4 + (c5 + (c6 + c7)))))) :=
  fin_ _ (c1 * 1 + c2 * 257 + c3 * 65793 + c4 * 16843009 + c5 * 4311810305 + c6 * 1103823438081 + c7 * 282578800148737) _ (c0 * 282578800148737 + c1 * 282578800148736 + c2 * 282578800148480 + c3 * 282578800082944 + c4 * 282578783305728 + c5 * 282574488338432 + c6 * 281474976710656) (by omega) (by omega) (by omega)
theorem total (x : Nat) : F 8 x * 72340172838076673 % 18446744073709551616 / 72057594037927936 = cnt x 64 := by
  have e : cnt x 64 = cnt x 8 + (cnt (x / 256) 8 + (cnt (x / 256 / 256) 8 + (cnt (x / 256 / 256 / 256) 8 + (cnt (x / 256 / 256 / 256 / 256) 8 + (cnt (x / 256 / 256 / 256 / 256 / 256) 8 + (cnt (x / 256 / 256 / 256 / 256 / 256 / 256) 8 + cnt (x / 256 / 256 / 256 / 256 / 256 / 256 / 256) 8)))))) := by
    rw [show (64 : Nat) = 8 + (8 + (8 + (8 + (8 + (8 + (8 + 8)))))) from rfl]; simp only [cnt_split]
  rw [e]
  simp only [F_succ, F_zero]
  exact sum8 _ _ _ _ _ _ _ _ (cnt_le _ 8) (cnt_le _ 8) (cnt_le _ 8) (cnt_le _ 8) (cnt_le _ 8) (cnt_le _ 8) (cnt_le _ 8) (cnt_le _ 8)
theorem F_lt (x : Nat) : F 8 x < 2 ^ 64 := by
  simp only [F_succ, F_zero]
  have h := fun y => cnt_le y 8
  have h0 := h x; have h1 := h (x / 256); have h2 := h (x / 256 / 256); have h3 := h (x / 256 / 256 / 256); have h4 := h (x / 256 / 256 / 256 / 256); have h5 := h (x / 256 / 256 / 256 / 256 / 256); have h6 := h (x / 256 / 256 / 256 / 256 / 256 / 256); have h7 := h (x / 256 / 256 / 256 / 256 / 256 / 256 / 256)
  omega

/-- The count of a word's bits, as the program reckons it. -/
def lenI (a0 : Int) : Int := wrap64 ((IntKind.u64.wrap ((Go.bits .and .u64 (IntKind.u64.wrap ((IntKind.u64.wrap ((Go.bits .and .u64 (IntKind.u64.wrap (a0 - (Go.bits .and .u64 (a0 / 2) 6148914691236517205))) 3689348814741910323) + (Go.bits .and .u64 ((IntKind.u64.wrap (a0 - (Go.bits .and .u64 (a0 / 2) 6148914691236517205))) / 4) 3689348814741910323))) + ((IntKind.u64.wrap ((Go.bits .and .u64 (IntKind.u64.wrap (a0 - (Go.bits .and .u64 (a0 / 2) 6148914691236517205))) 3689348814741910323) + (Go.bits .and .u64 ((IntKind.u64.wrap (a0 - (Go.bits .and .u64 (a0 / 2) 6148914691236517205))) / 4) 3689348814741910323))) / 16))) 1085102592571150095) * 72340172838076673)) / 72057594037927936)
theorem lenI_eq (x : Nat) (hx : x < 2 ^ 64) : lenI (x : Int) = (cnt x 64 : Int) := by
  have r5 : rep 85 8 = 6148914691236517205 := by decide
  have r3 : rep 51 8 = 3689348814741910323 := by decide
  have rf : rep 15 8 = 1085102592571150095 := by decide
  have i1 : IntKind.u64.wrap ((x : Int) - Go.bits .and .u64 ((x : Int) / 2) 6148914691236517205) = (p1 8 x : Int) := by
    have : (x / 2 &&& 6148914691236517205) ≤ x / 2 := Nat.and_le_left
    rw [show (x : Int) / 2 = ((x / 2 : Nat) : Int) from by omega, show (6148914691236517205 : Int) = ((6148914691236517205 : Nat) : Int) from rfl, and_u64 _ _ (by omega) (by decide), wrap_u64]
    unfold p1; rw [r5]; omega
  have l1 : p1 8 x < 2 ^ 64 := by unfold p1; omega
  have i2 : IntKind.u64.wrap (Go.bits .and .u64 (p1 8 x : Int) 3689348814741910323 + Go.bits .and .u64 ((p1 8 x : Int) / 4) 3689348814741910323) = (q 8 x : Int) := by
    have h1 : (p1 8 x &&& 3689348814741910323) ≤ 3689348814741910323 := Nat.and_le_right
    have h2 : (p1 8 x / 4 &&& 3689348814741910323) ≤ 3689348814741910323 := Nat.and_le_right
    rw [show (p1 8 x : Int) / 4 = ((p1 8 x / 4 : Nat) : Int) from by omega, show (3689348814741910323 : Int) = ((3689348814741910323 : Nat) : Int) from rfl, and_u64 _ _ l1 (by decide), and_u64 _ _ (by omega) (by decide), wrap_u64]
    unfold q p2; rw [r3]; omega
  have l2 : q 8 x ≤ 2 * 3689348814741910323 := by
    have h1 : (p1 8 x &&& rep 51 8) ≤ rep 51 8 := Nat.and_le_right
    have h2 : (p1 8 x / 4 &&& rep 51 8) ≤ rep 51 8 := Nat.and_le_right
    unfold q p2; omega
  have i3 : Go.bits .and .u64 (IntKind.u64.wrap ((q 8 x : Int) + (q 8 x : Int) / 16)) 1085102592571150095 = (F 8 x : Int) := by
    rw [show (q 8 x : Int) + (q 8 x : Int) / 16 = ((q 8 x + q 8 x / 16 : Nat) : Int) from by omega, wrap_nat, Nat.mod_eq_of_lt (by omega), show (1085102592571150095 : Int) = ((1085102592571150095 : Nat) : Int) from rfl, and_u64 _ _ (by omega) (by decide)]
    unfold F p3; rw [rf]
  unfold lenI
  rw [i1, i2, i3]
  have ht := total x
  have hl := cnt_le x 64
  have hF := F_lt x
  rw [show (F 8 x : Int) * 72340172838076673 = ((F 8 x * 72340172838076673 : Nat) : Int) from by omega, wrap_nat]
  simp only [Nat.reducePow]
  rw [show ((F 8 x * 72340172838076673 % 18446744073709551616 : Nat) : Int) / 72057594037927936 = ((F 8 x * 72340172838076673 % 18446744073709551616 / 72057594037927936 : Nat) : Int) from by omega, ht]
  unfold wrap64
  omega
end Go.Proofs.Ytjkllkbdmkkndaa.Bits
