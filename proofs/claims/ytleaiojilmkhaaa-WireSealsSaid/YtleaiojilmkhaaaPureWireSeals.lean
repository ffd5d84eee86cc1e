/- The record of bytes. -/
import Derived.Test.YtleaiojilmkhaaaPWireSealsx2
import Derived.Test.YtleaiojilmkhaaaPlainT
import Derived.Test.YtleaiojilmkhaaaExt
import Derived.Test.YtleaiojilmkhaaaPlainS
import Derived.Test.YtleaiojilmkhaaaPlainX
namespace Go.Proofs.Ytleaiojilmkhaaa.Pure
open Go Go.RowKit Go.Proofs.Ytleaiojilmkhaaa.PWireSeals Go.Proofs.YtleaiojilmkhaaaW.PrintWords Go.Proofs.YtleaiojilmkhaaaW.PrintLast Go.Proofs.YtleaiojilmkhaaaW.PrintMore Go.Proofs.Ytleaiojilmkhaaa.Wire

theorem awake_t : towlinelaw01_awake.f 100 = some true := by decide +kernel
theorem awake_le : ∀ k, 100 ≤ k → towlinelaw01_awake.f k = some true := by
  intro k hk
  induction k with
  | zero => omega
  | succ k ih =>
    rcases Nat.lt_or_ge k 100 with h | h
    · obtain rfl : k = 99 := by omega
      exact awake_t
    · exact towlinelaw01_awake.mono k true (ih h)
theorem psum_l1 (s : List Int) (x8 x9 : Int) : ∀ (n j k : Nat) (c : Nat), c < 4294967296 → j + n = 8 → n < k → wire_Sum.l1 k (c : Int) s x8 x9 (j : Int) = wire_Sum.l0 (k - n - 1) ((bitsS n c : Nat) : Int) s x8 (wrap64 (x9 + 1)) := by
  intro n
  induction n with
  | zero =>
    intro j k c hc hj hk
    obtain ⟨k, rfl⟩ : ∃ k', k = k' + 1 := ⟨k - 1, by omega⟩
    simp only [wire_Sum.l1]
    rw [if_neg (by omega)]
    rfl
  | succ n ih =>
    intro j k c hc hj hk
    obtain ⟨k, rfl⟩ : ∃ k', k = k' + 1 := ⟨k - 1, by omega⟩
    simp only [wire_Sum.l1]
    rw [if_pos (by omega), bit_w c hc, show wrap64 ((j : Int) + 1) = ((j + 1 : Nat) : Int) by unfold wrap64; omega, ih (j + 1) k (bitS c) (bitS_lt hc) (by omega) (by omega), show k + 1 - (n + 1) - 1 = k - n - 1 by omega]
    rfl
theorem psum_l0 (s : List Int) (hs : Bs s) (hlen : s.length < 140737488355328) : ∀ (r : List Int) (i k c : Nat), s.drop i = r → c < 4294967296 → i ≤ s.length → 10 * r.length < k → wire_Sum.l0 k (c : Int) s (s.length : Int) (i : Int) = some ((4294967295 ^^^ crc r c : Nat) : Int) := by
  intro r
  induction r with
  | nil =>
    intro i k c hd hc hi hk
    obtain ⟨k, rfl⟩ : ∃ k', k = k' + 1 := ⟨k - 1, by omega⟩
    have h0 := List.drop_eq_nil_iff.1 hd
    simp only [wire_Sum.l0]
    rw [if_neg (by omega), show (4294967295 : Int) = ((4294967295 : Nat) : Int) from rfl, u32_xor_nat _ _ (by decide) hc]
    rfl
  | cons x r ih =>
    intro i k c hd hc hi hk
    obtain ⟨hx, hlt, hmem, hd2⟩ := rd_drop hd
    obtain ⟨hx0, hx1⟩ := hs x hmem
    obtain ⟨b, rfl⟩ := Int.eq_ofNat_of_zero_le hx0
    rw [List.length_cons] at hk
    obtain ⟨k, rfl⟩ : ∃ k', k = k' + 1 := ⟨k - 1, by omega⟩
    simp only [wire_Sum.l0]
    rw [if_pos (by omega), if_pos (by omega), if_pos (by omega), hx, show (b : Int) % 4294967296 = (b : Int) by omega, u32_xor_nat _ _ hc (by omega)]
    have h1 := psum_l1 s (s.length : Int) (i : Int) 8 0 k (c ^^^ b) (xor_lt hc (by omega)) rfl (by omega)
    refine h1.trans ?_
    clear h1
    rw [show wrap64 ((i : Int) + 1) = ((i + 1 : Nat) : Int) by unfold wrap64; omega]
    exact ih (i + 1) _ _ hd2 (bitsS_lt 8 _ (xor_lt hc (by omega))) (by omega) (by omega)
theorem psum (s : List Int) (hs : Bs s) (hlen : s.length < 140737488355328) (k : Nat) (hk : 10 * s.length < k) : wire_Sum.f k s = some (sumP s) := psum_l0 s hs hlen s 0 k 4294967295 rfl (by decide) (Nat.zero_le _) hk
theorem bit_r1 (c : Nat) (h : c < 4294967296) (h2 : Int.tmod (c : Int) 2 = 1) : Go.bits .xor .u32 ((Int.tdiv (c : Int) 2) % 4294967296) 2197175160 = (bitS c : Int) := by
  rw [Int.tmod_eq_emod_of_nonneg (by omega)] at h2
  rw [Int.tdiv_eq_ediv_of_nonneg (by omega), show (c : Int) / 2 % 4294967296 = ((c / 2 : Nat) : Int) by omega, show (2197175160 : Int) = ((2197175160 : Nat) : Int) from rfl, u32_xor_nat _ _ (by omega) (by decide)]
  unfold bitS
  rw [if_pos (by omega)]
theorem bit_r0 (c : Nat) (h : c < 4294967296) (h2 : ¬ Int.tmod (c : Int) 2 = 1) : (Int.tdiv (c : Int) 2) % 4294967296 = (bitS c : Int) := by
  rw [Int.tmod_eq_emod_of_nonneg (by omega)] at h2
  rw [Int.tdiv_eq_ediv_of_nonneg (by omega)]
  unfold bitS
  rw [if_neg (by omega)]; omega
theorem rsum_l1 (s : List Int) (x8 x9 : Int) : ∀ (n j k : Nat) (c : Nat), c < 4294967296 → j + n = 8 → n < k → towlineref01_Sum.l1 k (c : Int) s x8 x9 (j : Int) = towlineref01_Sum.l0 (k - n - 1) ((bitsS n c : Nat) : Int) s x8 (wrap64 (x9 + 1)) := by
  intro n
  induction n with
  | zero =>
    intro j k c hc hj hk
    obtain ⟨k, rfl⟩ : ∃ k', k = k' + 1 := ⟨k - 1, by omega⟩
    simp only [towlineref01_Sum.l1]
    rw [if_neg (by omega)]
    rfl
  | succ n ih =>
    intro j k c hc hj hk
    obtain ⟨k, rfl⟩ : ∃ k', k = k' + 1 := ⟨k - 1, by omega⟩
    have e := ih (j + 1) k (bitS c) (bitS_lt hc) (by omega) (by omega)
    rw [show k - n - 1 = k + 1 - (n + 1) - 1 by omega] at e
    simp only [towlineref01_Sum.l1]
    rw [if_pos (by omega), show wrap64 ((j : Int) + 1) = ((j + 1 : Nat) : Int) by unfold wrap64; omega]
    by_cases h2 : Int.tmod (c : Int) 2 = 1
    · rw [if_pos h2, bit_r1 c hc h2]; exact e
    · rw [if_neg h2, bit_r0 c hc h2]; exact e
theorem rsum_l0 (s : List Int) (hs : Bs s) (hlen : s.length < 140737488355328) : ∀ (r : List Int) (i k c : Nat), s.drop i = r → c < 4294967296 → i ≤ s.length → 10 * r.length < k → towlineref01_Sum.l0 k (c : Int) s (s.length : Int) (i : Int) = some ((4294967295 ^^^ crc r c : Nat) : Int) := by
  intro r
  induction r with
  | nil =>
    intro i k c hd hc hi hk
    obtain ⟨k, rfl⟩ : ∃ k', k = k' + 1 := ⟨k - 1, by omega⟩
    have h0 := List.drop_eq_nil_iff.1 hd
    simp only [towlineref01_Sum.l0]
    rw [if_neg (by omega)]
    have h1 := xor_ones32 c hc
    refine congrArg some ?_
    rw [show crc ([] : List Int) c = c from rfl, h1]; omega
  | cons x r ih =>
    intro i k c hd hc hi hk
    obtain ⟨hx, hlt, hmem, hd2⟩ := rd_drop hd
    obtain ⟨hx0, hx1⟩ := hs x hmem
    obtain ⟨b, rfl⟩ := Int.eq_ofNat_of_zero_le hx0
    rw [List.length_cons] at hk
    obtain ⟨k, rfl⟩ : ∃ k', k = k' + 1 := ⟨k - 1, by omega⟩
    simp only [towlineref01_Sum.l0]
    rw [if_pos (by omega), if_pos (by omega), if_pos (by omega), hx, show (b : Int) % 4294967296 = (b : Int) by omega, u32_xor_nat _ _ hc (by omega)]
    have h1 := rsum_l1 s (s.length : Int) (i : Int) 8 0 k (c ^^^ b) (xor_lt hc (by omega)) rfl (by omega)
    refine h1.trans ?_
    clear h1
    rw [show wrap64 ((i : Int) + 1) = ((i + 1 : Nat) : Int) by unfold wrap64; omega]
    exact ih (i + 1) _ _ hd2 (bitsS_lt 8 _ (xor_lt hc (by omega))) (by omega) (by omega)
theorem rsum (s : List Int) (hs : Bs s) (hlen : s.length < 140737488355328) (k : Nat) (hk : 10 * s.length < k) : towlineref01_Sum.f k s = some (sumP s) := rsum_l0 s hs hlen s 0 k 4294967295 rfl (by decide) (Nat.zero_le _) hk
theorem rput_l1 (s : List Int) (x12 x13 : Int) : ∀ (f j k n : Nat) (acc : List Int), j + f = 9 → n < 128 ^ (f + 1) → n < 18446744073709551616 → acc.length + (11 - j) < 140737488355328 → f + 1 < k → ∃ k', k ≤ k' + f + 1 ∧ k' < k ∧ towlineref01_Put.l1 k acc (n : Int) s x12 x13 (j : Int) = towlineref01_Put.l0 k' (acc ++ enc f n) s x12 (wrap64 (x13 + 1)) := by
  intro f
  induction f with
  | zero =>
    intro j k n acc hj hn hn2 hl hk
    obtain ⟨k, rfl⟩ : ∃ k', k = k' + 1 := ⟨k - 1, by omega⟩
    refine ⟨k, by omega, by omega, ?_⟩
    simp only [towlineref01_Put.l1]
    rw [if_pos (by omega), if_pos (by omega), if_pos (by omega), show (n : Int) % 256 = (n : Int) by omega]
    rfl
  | succ f ih =>
    intro j k n acc hj hn hn2 hl hk
    obtain ⟨k, rfl⟩ : ∃ k', k = k' + 1 := ⟨k - 1, by omega⟩
    by_cases h : n < 128
    · refine ⟨k, by omega, by omega, ?_⟩
      simp only [towlineref01_Put.l1]
      rw [if_pos (by omega), if_pos (by omega), if_pos (by omega), show (n : Int) % 256 = (n : Int) by omega]
      unfold enc
      rw [if_pos h]
    · have hd : n / 128 < 128 ^ (f + 1) := by
        rw [Nat.pow_succ] at hn
        exact (Nat.div_lt_iff_lt_mul (by decide)).2 hn
      obtain ⟨k', h1, h2, h3⟩ := ih (j + 1) k (n / 128) (acc ++ [128 + (n : Int) % 128]) (by omega) hd (by omega) (by simp only [List.length_append, List.length_singleton]; omega) (by omega)
      refine ⟨k', by omega, by omega, ?_⟩
      simp only [towlineref01_Put.l1]
      rw [if_pos (by omega), if_neg (by omega), if_pos (by omega), Int.tmod_eq_emod_of_nonneg (by omega), Int.tdiv_eq_ediv_of_nonneg (by omega), show IntKind.u64.wrap (128 + (n : Int) % 128) % 256 = 128 + (n : Int) % 128 by rw [u64w]; omega, show IntKind.u64.wrap ((n : Int) / 128) = ((n / 128 : Nat) : Int) by rw [u64w]; omega, show wrap64 ((j : Int) + 1) = ((j + 1 : Nat) : Int) by unfold wrap64; omega, h3]
      rw [List.append_assoc]
      have e : enc (f + 1) n = (128 + (n : Int) % 128) :: enc f (n / 128) := by
        show (if n < 128 then _ else _) = _
        rw [if_neg h]
      rw [e]; rfl
theorem rput_l0 (s : List Int) (hs : ∀ x ∈ s, 0 ≤ x ∧ x < 18446744073709551616) (hlen : s.length < 140737488355328) : ∀ (r : List Int) (i k : Nat) (acc : List Int), s.drop i = r → i ≤ s.length → acc.length + 10 * r.length + 20 < 140737488355328 → 12 * r.length < k → towlineref01_Put.l0 k acc s (s.length : Int) (i : Int) = some (acc ++ Wire.encs r) := by
  intro r
  induction r with
  | nil =>
    intro i k acc hd hi hl hk
    obtain ⟨k, rfl⟩ : ∃ k', k = k' + 1 := ⟨k - 1, by omega⟩
    have h0 := List.drop_eq_nil_iff.1 hd
    simp only [towlineref01_Put.l0]
    rw [if_neg (by omega)]
    simp [Wire.encs]
  | cons x r ih =>
    intro i k acc hd hi hl hk
    obtain ⟨hx, hlt, hmem, hd2⟩ := rd_drop hd
    obtain ⟨hx0, hx1⟩ := hs x hmem
    obtain ⟨b, rfl⟩ := Int.eq_ofNat_of_zero_le hx0
    rw [List.length_cons] at hk hl
    obtain ⟨k, rfl⟩ : ∃ k', k = k' + 1 := ⟨k - 1, by omega⟩
    simp only [towlineref01_Put.l0]
    rw [if_pos (by omega), if_pos (by omega), if_pos (by omega), hx]
    obtain ⟨k', h1, h2, h3⟩ := rput_l1 s (s.length : Int) (i : Int) 9 0 k b acc rfl (by omega) (by omega) (by omega) (by omega)
    refine h3.trans ?_
    clear h3
    rw [show wrap64 ((i : Int) + 1) = ((i + 1 : Nat) : Int) by unfold wrap64; omega]
    have hl2 := enc_len 9 b
    rw [ih (i + 1) k' _ hd2 (by omega) (by rw [List.length_append]; omega) (by omega)]
    unfold Wire.encs
    rw [List.flatMap_cons, List.append_assoc, Int.toNat_natCast]
theorem rput (l s : List Int) (hs : ∀ x ∈ s, 0 ≤ x ∧ x < 18446744073709551616) (hl : l.length + 10 * s.length + 20 < 140737488355328) (k : Nat) (hk : 12 * s.length < k) : towlineref01_Put.f k l s = some (l ++ Wire.encs s) := by
  unfold towlineref01_Put.f
  rw [Option.bind_some, if_pos (by simp only [List.length_nil]; omega), List.nil_append]
  exact rput_l0 s hs (by omega) s 0 k l rfl (Nat.zero_le _) hl hk
theorem pseal_long (l : List Int) (h : 8192 < l.length) (k : Nat) : wire_Seal.f k l = some ([], 4) := by
  unfold wire_Seal.f; rw [if_pos (by omega)]
theorem pseal (l : List Int) (hb : Bs l) (h : l.length ≤ 8192) (k : Nat) (hk : 90000 < k) : wire_Seal.f k l = some (sealP l, 0) := by
  have hw : IntKind.u64.wrap (l.length : Int) = (l.length : Int) := by rw [u64w]; omega
  have hes : Wire.encs [(l.length : Int)] = enc 9 l.length := by simp [Wire.encs]
  have hen := enc_len 9 l.length
  have hr := rec_len l h
  have hp : wire_PutBytes.f [] l = some (recP l) := by
    unfold wire_PutBytes.f wire_Put.f recP
    rw [hw, if_pos ⟨by simp, by simp [u64s]; omega, by simp only [List.length_singleton, List.length_nil]; omega⟩, Option.bind_some, hes, List.nil_append, if_pos (by omega)]
  unfold wire_Seal.f wire_four.f
  rw [if_neg (by omega), hp, Option.bind_some, psum _ (rec_bs hb (by omega)) (by omega) _ (by omega), Option.bind_some, Option.bind_some, if_pos (by simp only [List.length_cons, List.length_nil]; omega)]
  rfl
theorem rseal (l : List Int) (hb : Bs l) (h : l.length ≤ 8192) (k : Nat) (hk : 90000 < k) : towlineref01_Seal.f k l = some (sealP l, 0) := by
  have hw : IntKind.u64.wrap (l.length : Int) = (l.length : Int) := by rw [u64w]; omega
  have hes : Wire.encs [(l.length : Int)] = enc 9 l.length := by simp [Wire.encs]
  have hen := enc_len 9 l.length
  have hr := rec_len l h
  have hp : towlineref01_Bytes.f k [] l = some (recP l) := by
    unfold towlineref01_Bytes.f recP
    rw [hw, rput [] [(l.length : Int)] (by simp; omega) (by simp only [List.length_singleton, List.length_nil]; omega) _ (by simp only [List.length_singleton]; omega), Option.bind_some, hes, List.nil_append, if_pos (by omega)]
  unfold towlineref01_Seal.f
  rw [if_neg (by omega), hp, Option.bind_some, rsum _ (rec_bs hb (by omega)) (by omega) _ (by omega), Option.bind_some, Option.bind_some, four_ref (sumP_range _ (rec_bs hb (by omega))), if_pos (by rw [four_len]; omega)]
  rfl
theorem WireSeals : towlinelaw01_WireSeals.Pure := by
  intro l _ _ hb
  have hB : Bs l := fun x hx => wf_u8 (hb x hx)
  refine ⟨100000, ?_⟩
  unfold towlinelaw01_WireSeals.f
  by_cases h : (l.length : Int) > 32768
  · rw [if_pos h, awake_le _ (by decide)]; rfl
  · rw [if_neg h]
    by_cases h2 : l.length ≤ 8192
    · rw [pseal l hB h2 _ (by decide), Option.bind_some, rseal l hB h2 _ (by decide), Option.bind_some]
      unfold bytes_Equal.f
      rw [Option.bind_some, if_pos (by simp), if_pos rfl, awake_le _ (by decide)]; rfl
    · have hr : towlineref01_Seal.f 100000 l = some ([], 4) := by unfold towlineref01_Seal.f; rw [if_pos (by omega)]
      rw [pseal_long l (by omega), Option.bind_some, hr, Option.bind_some]
      unfold bytes_Equal.f
      rw [Option.bind_some, if_pos (by simp), if_pos rfl, awake_le _ (by decide)]; rfl

end Go.Proofs.Ytleaiojilmkhaaa.Pure
