/- A record that is cut off. -/
import Derived.Test.YtleaiojilmkhaaaPWireCutx1
import Derived.Test.YtleaiojilmkhaaaPlainT
import Derived.Test.YtleaiojilmkhaaaExt
import Derived.Test.YtleaiojilmkhaaaPlainS
import Derived.Test.YtleaiojilmkhaaaPlainX
namespace Go.Proofs.Ytleaiojilmkhaaa.Pure
open Go Go.RowKit Go.Proofs.Ytleaiojilmkhaaa.PWireCut Go.Proofs.YtleaiojilmkhaaaW.PrintWords Go.Proofs.YtleaiojilmkhaaaW.PrintLast Go.Proofs.YtleaiojilmkhaaaW.PrintMore Go.Proofs.Ytleaiojilmkhaaa.Wire

theorem awake_t : towlinelaw01_awake.f 100 = some true := by decide +kernel
theorem awake_le : ∀ k, 100 ≤ k → towlinelaw01_awake.f k = some true := by
  intro k hk
  induction k with
  | zero => omega
  | succ k ih =>
    rcases Nat.lt_or_ge k 100 with h | h
    · obtain rfl : k = 99 := by omega
      exact awake_t
    · exact towlinelaw01_awake.mono k true (ih h)
theorem psum_l1 (s : List Int) (x8 x9 : Int) : ∀ (n j k : Nat) (c : Nat), c < 4294967296 → j + n = 8 → n < k → wire_Sum.l1 k (c : Int) s x8 x9 (j : Int) = wire_Sum.l0 (k - n - 1) ((bitsS n c : Nat) : Int) s x8 (wrap64 (x9 + 1)) := by
  intro n
  induction n with
  | zero =>
    intro j k c hc hj hk
    obtain ⟨k, rfl⟩ : ∃ k', k = k' + 1 := ⟨k - 1, by omega⟩
    simp only [wire_Sum.l1]
    rw [if_neg (by omega)]
    rfl
  | succ n ih =>
    intro j k c hc hj hk
    obtain ⟨k, rfl⟩ : ∃ k', k = k' + 1 := ⟨k - 1, by omega⟩
    simp only [wire_Sum.l1]
    rw [if_pos (by omega), bit_w c hc, show wrap64 ((j : Int) + 1) = ((j + 1 : Nat) : Int) by unfold wrap64; omega, ih (j + 1) k (bitS c) (bitS_lt hc) (by omega) (by omega), show k + 1 - (n + 1) - 1 = k - n - 1 by omega]
    rfl
theorem psum_l0 (s : List Int) (hs : Bs s) (hlen : s.length < 140737488355328) : ∀ (r : List Int) (i k c : Nat), s.drop i = r → c < 4294967296 → i ≤ s.length → 10 * r.length < k → wire_Sum.l0 k (c : Int) s (s.length : Int) (i : Int) = some ((4294967295 ^^^ crc r c : Nat) : Int) := by
  intro r
  induction r with
  | nil =>
    intro i k c hd hc hi hk
    obtain ⟨k, rfl⟩ : ∃ k', k = k' + 1 := ⟨k - 1, by omega⟩
    have h0 := List.drop_eq_nil_iff.1 hd
    simp only [wire_Sum.l0]
    rw [if_neg (by omega), show (4294967295 : Int) = ((4294967295 : Nat) : Int) from rfl, u32_xor_nat _ _ (by decide) hc]
    rfl
  | cons x r ih =>
    intro i k c hd hc hi hk
    obtain ⟨hx, hlt, hmem, hd2⟩ := rd_drop hd
    obtain ⟨hx0, hx1⟩ := hs x hmem
    obtain ⟨b, rfl⟩ := Int.eq_ofNat_of_zero_le hx0
    rw [List.length_cons] at hk
    obtain ⟨k, rfl⟩ : ∃ k', k = k' + 1 := ⟨k - 1, by omega⟩
    simp only [wire_Sum.l0]
    rw [if_pos (by omega), if_pos (by omega), if_pos (by omega), hx, show (b : Int) % 4294967296 = (b : Int) by omega, u32_xor_nat _ _ hc (by omega)]
    have h1 := psum_l1 s (s.length : Int) (i : Int) 8 0 k (c ^^^ b) (xor_lt hc (by omega)) rfl (by omega)
    refine h1.trans ?_
    clear h1
    rw [show wrap64 ((i : Int) + 1) = ((i + 1 : Nat) : Int) by unfold wrap64; omega]
    exact ih (i + 1) _ _ hd2 (bitsS_lt 8 _ (xor_lt hc (by omega))) (by omega) (by omega)
theorem psum (s : List Int) (hs : Bs s) (hlen : s.length < 140737488355328) (k : Nat) (hk : 10 * s.length < k) : wire_Sum.f k s = some (sumP s) := psum_l0 s hs hlen s 0 k 4294967295 rfl (by decide) (Nat.zero_le _) hk
theorem pseal_long (l : List Int) (h : 8192 < l.length) (k : Nat) : wire_Seal.f k l = some ([], 4) := by
  unfold wire_Seal.f; rw [if_pos (by omega)]
theorem pseal (l : List Int) (hb : Bs l) (h : l.length ≤ 8192) (k : Nat) (hk : 90000 < k) : wire_Seal.f k l = some (sealP l, 0) := by
  have hw : IntKind.u64.wrap (l.length : Int) = (l.length : Int) := by rw [u64w]; omega
  have hes : Wire.encs [(l.length : Int)] = enc 9 l.length := by simp [Wire.encs]
  have hen := enc_len 9 l.length
  have hr := rec_len l h
  have hp : wire_PutBytes.f [] l = some (recP l) := by
    unfold wire_PutBytes.f wire_Put.f recP
    rw [hw, if_pos ⟨by simp, by simp [u64s]; omega, by simp only [List.length_singleton, List.length_nil]; omega⟩, Option.bind_some, hes, List.nil_append, if_pos (by omega)]
  unfold wire_Seal.f wire_four.f
  rw [if_neg (by omega), hp, Option.bind_some, psum _ (rec_bs hb (by omega)) (by omega) _ (by omega), Option.bind_some, Option.bind_some, if_pos (by simp only [List.length_cons, List.length_nil]; omega)]
  rfl
theorem at_mod (a : Int) (n : Nat) (hn : 0 < n) (hs : n < 100000) : IntKind.u64.wrap (n : Int) = (n : Int) ∧ ∃ m : Nat, m < n ∧ wrap64 (Int.tmod (IntKind.u64.wrap a) (n : Int)) = (m : Int) := by
  refine ⟨by rw [u64w]; omega, (Int.tmod (IntKind.u64.wrap a) (n : Int)).toNat, ?_⟩
  rw [u64w]
  have h0 : 0 ≤ a % 18446744073709551616 := by omega
  rw [Int.tmod_eq_emod_of_nonneg h0]
  have h1 := Int.emod_nonneg (a % 18446744073709551616) (show (n : Int) ≠ 0 by omega)
  have h2 := Int.emod_lt_of_pos (a % 18446744073709551616) (show (0 : Int) < (n : Int) by omega)
  generalize a % 18446744073709551616 % (n : Int) = z at *
  refine ⟨by omega, ?_⟩
  unfold wrap64; omega
theorem WireCut : towlinelaw01_WireCut.Pure := by
  intro l a _ _ hb _
  have hB : Bs l := fun x hx => wf_u8 (hb x hx)
  refine ⟨100000, ?_⟩
  unfold towlinelaw01_WireCut.f
  by_cases h : (l.length : Int) > 16384
  · rw [if_pos h, awake_le _ (by decide)]; rfl
  · rw [if_neg h]
    by_cases h2 : l.length ≤ 8192
    · have hsl := seal_len l
      have hen := enc_len 9 l.length
      have hw := at_mod a (sealP l).length (by omega) (by omega)
      rw [pseal l hB h2 _ (by decide), Option.bind_some, if_pos rfl]
      rw [show (((sealP l).length : Int) == 0) = false from beq_eq_false_iff_ne.mpr (by omega)]
      simp only [towlinelaw01_WireCut.j0]
      obtain ⟨hw1, m, hm, hw2⟩ := hw
      have ho : wire_Open.f ((sealP l).take m) = some ([], 0, 2) := by
        unfold wire_Open.f
        rw [if_pos ⟨bs_iff.2 ((seal_bs hB (by omega)).take _), by rw [List.length_take]; omega⟩, open_cut l h2 m hm]; rfl
      rw [if_neg (by decide), hw1, if_neg (by omega), hw2, if_pos (by omega), if_pos (by omega), Int.toNat_natCast, ho, Option.bind_some, if_pos (by decide +kernel), if_pos rfl, awake_le _ (by decide)]
      rfl
    · rw [pseal_long l (by omega), Option.bind_some, if_neg (by decide)]
      simp only [towlinelaw01_WireCut.j0]
      rw [if_pos trivial, if_neg (by decide), awake_le _ (by decide)]; rfl

end Go.Proofs.Ytleaiojilmkhaaa.Pure
