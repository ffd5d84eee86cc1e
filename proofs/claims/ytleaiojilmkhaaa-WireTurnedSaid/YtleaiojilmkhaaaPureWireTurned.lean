/- A record of which one byte is another one. -/
import Derived.Test.YtleaiojilmkhaaaPWireTurnedx1
import Derived.Test.YtleaiojilmkhaaaPlainT
import Derived.Test.YtleaiojilmkhaaaExt
import Derived.Test.YtleaiojilmkhaaaPlainS
import Derived.Test.YtleaiojilmkhaaaPlainX
namespace Go.Proofs.Ytleaiojilmkhaaa.Pure
open Go Go.RowKit Go.Proofs.Ytleaiojilmkhaaa.PWireTurned Go.Proofs.YtleaiojilmkhaaaW.PrintWords Go.Proofs.YtleaiojilmkhaaaW.PrintLast Go.Proofs.YtleaiojilmkhaaaW.PrintMore Go.Proofs.Ytleaiojilmkhaaa.Wire

theorem awake_t : towlinelaw01_awake.f 100 = some true := by decide +kernel
theorem awake_le : ∀ k, 100 ≤ k → towlinelaw01_awake.f k = some true := by
  intro k hk
  induction k with
  | zero => omega
  | succ k ih =>
    rcases Nat.lt_or_ge k 100 with h | h
    · obtain rfl : k = 99 := by omega
      exact awake_t
    · exact towlinelaw01_awake.mono k true (ih h)
theorem psum_l1 (s : List Int) (x8 x9 : Int) : ∀ (n j k : Nat) (c : Nat), c < 4294967296 → j + n = 8 → n < k → wire_Sum.l1 k (c : Int) s x8 x9 (j : Int) = wire_Sum.l0 (k - n - 1) ((bitsS n c : Nat) : Int) s x8 (wrap64 (x9 + 1)) := by
  intro n
  induction n with
  | zero =>
    intro j k c hc hj hk
    obtain ⟨k, rfl⟩ : ∃ k', k = k' + 1 := ⟨k - 1, by omega⟩
    simp only [wire_Sum.l1]
    rw [if_neg (by omega)]
    rfl
  | succ n ih =>
    intro j k c hc hj hk
    obtain ⟨k, rfl⟩ : ∃ k', k = k' + 1 := ⟨k - 1, by omega⟩
    simp only [wire_Sum.l1]
    rw [if_pos (by omega), bit_w c hc, show wrap64 ((j : Int) + 1) = ((j + 1 : Nat) : Int) by unfold wrap64; omega, ih (j + 1) k (bitS c) (bitS_lt hc) (by omega) (by omega), show k + 1 - (n + 1) - 1 = k - n - 1 by omega]
    rfl
theorem psum_l0 (s : List Int) (hs : Bs s) (hlen : s.length < 140737488355328) : ∀ (r : List Int) (i k c : Nat), s.drop i = r → c < 4294967296 → i ≤ s.length → 10 * r.length < k → wire_Sum.l0 k (c : Int) s (s.length : Int) (i : Int) = some ((4294967295 ^^^ crc r c : Nat) : Int) := by
  intro r
  induction r with
  | nil =>
    intro i k c hd hc hi hk
    obtain ⟨k, rfl⟩ : ∃ k', k = k' + 1 := ⟨k - 1, by omega⟩
    have h0 := List.drop_eq_nil_iff.1 hd
    simp only [wire_Sum.l0]
    rw [if_neg (by omega), show (4294967295 : Int) = ((4294967295 : Nat) : Int) from rfl, u32_xor_nat _ _ (by decide) hc]
    rfl
  | cons x r ih =>
    intro i k c hd hc hi hk
    obtain ⟨hx, hlt, hmem, hd2⟩ := rd_drop hd
    obtain ⟨hx0, hx1⟩ := hs x hmem
    obtain ⟨b, rfl⟩ := Int.eq_ofNat_of_zero_le hx0
    rw [List.length_cons] at hk
    obtain ⟨k, rfl⟩ : ∃ k', k = k' + 1 := ⟨k - 1, by omega⟩
    simp only [wire_Sum.l0]
    rw [if_pos (by omega), if_pos (by omega), if_pos (by omega), hx, show (b : Int) % 4294967296 = (b : Int) by omega, u32_xor_nat _ _ hc (by omega)]
    have h1 := psum_l1 s (s.length : Int) (i : Int) 8 0 k (c ^^^ b) (xor_lt hc (by omega)) rfl (by omega)
    refine h1.trans ?_
    clear h1
    rw [show wrap64 ((i : Int) + 1) = ((i + 1 : Nat) : Int) by unfold wrap64; omega]
    exact ih (i + 1) _ _ hd2 (bitsS_lt 8 _ (xor_lt hc (by omega))) (by omega) (by omega)
theorem psum (s : List Int) (hs : Bs s) (hlen : s.length < 140737488355328) (k : Nat) (hk : 10 * s.length < k) : wire_Sum.f k s = some (sumP s) := psum_l0 s hs hlen s 0 k 4294967295 rfl (by decide) (Nat.zero_le _) hk
theorem pseal_long (l : List Int) (h : 8192 < l.length) (k : Nat) : wire_Seal.f k l = some ([], 4) := by
  unfold wire_Seal.f; rw [if_pos (by omega)]
theorem pseal (l : List Int) (hb : Bs l) (h : l.length ≤ 8192) (k : Nat) (hk : 90000 < k) : wire_Seal.f k l = some (sealP l, 0) := by
  have hw : IntKind.u64.wrap (l.length : Int) = (l.length : Int) := by rw [u64w]; omega
  have hes : Wire.encs [(l.length : Int)] = enc 9 l.length := by simp [Wire.encs]
  have hen := enc_len 9 l.length
  have hr := rec_len l h
  have hp : wire_PutBytes.f [] l = some (recP l) := by
    unfold wire_PutBytes.f wire_Put.f recP
    rw [hw, if_pos ⟨by simp, by simp [u64s]; omega, by simp only [List.length_singleton, List.length_nil]; omega⟩, Option.bind_some, hes, List.nil_append, if_pos (by omega)]
  unfold wire_Seal.f wire_four.f
  rw [if_neg (by omega), hp, Option.bind_some, psum _ (rec_bs hb (by omega)) (by omega) _ (by omega), Option.bind_some, Option.bind_some, if_pos (by simp only [List.length_cons, List.length_nil]; omega)]
  rfl
theorem at_mod (a : Int) (n : Nat) (hn : 0 < n) (hs : n < 100000) : IntKind.u64.wrap (n : Int) = (n : Int) ∧ ∃ m : Nat, m < n ∧ wrap64 (Int.tmod (IntKind.u64.wrap a) (n : Int)) = (m : Int) := by
  refine ⟨by rw [u64w]; omega, (Int.tmod (IntKind.u64.wrap a) (n : Int)).toNat, ?_⟩
  rw [u64w]
  have h0 : 0 ≤ a % 18446744073709551616 := by omega
  rw [Int.tmod_eq_emod_of_nonneg h0]
  have h1 := Int.emod_nonneg (a % 18446744073709551616) (show (n : Int) ≠ 0 by omega)
  have h2 := Int.emod_lt_of_pos (a % 18446744073709551616) (show (0 : Int) < (n : Int) by omega)
  generalize a % 18446744073709551616 % (n : Int) = z at *
  refine ⟨by omega, ?_⟩
  unfold wrap64; omega
theorem other (b a2 : Int) (hb : 0 ≤ b ∧ b < 256) : ∃ y : Int, Go.bits .xor .u8 b ((IntKind.u64.wrap (1 + (Int.tmod (IntKind.u64.wrap a2) 255))) % 256) = y ∧ (0 ≤ y ∧ y < 256) ∧ y ≠ b := by
  have hd : ∃ d : Nat, (IntKind.u64.wrap (1 + (Int.tmod (IntKind.u64.wrap a2) 255))) % 256 = (d : Int) ∧ 0 < d ∧ d < 256 := by
    rw [u64w, u64w, Int.tmod_eq_emod_of_nonneg (by omega)]
    exact ⟨((1 + a2 % 18446744073709551616 % 255) % 18446744073709551616 % 256).toNat, by omega, by omega, by omega⟩
  obtain ⟨d, hd, h0, h1⟩ := hd
  rw [hd]
  obtain ⟨x, rfl⟩ := Int.eq_ofNat_of_zero_le hb.1
  rw [u8_xor_nat x d (by omega) h1]
  have hlt : x ^^^ d < 256 := Nat.xor_lt_two_pow (n := 8) (show x < 2 ^ 8 by omega) h1
  refine ⟨_, rfl, by omega, ?_⟩
  intro e
  have e2 : x ^^^ d = x ^^^ 0 := by rw [Nat.xor_zero]; exact Int.ofNat.inj e
  have := xor_l e2
  omega
theorem WireTurned : towlinelaw01_WireTurned.Pure := by
  intro l a a2 _ _ hb _ _
  have hB : Bs l := fun x hx => wf_u8 (hb x hx)
  refine ⟨100000, ?_⟩
  unfold towlinelaw01_WireTurned.f
  by_cases h : (l.length : Int) > 16384
  · rw [if_pos h, awake_le _ (by decide)]; rfl
  · rw [if_neg h]
    by_cases h2 : l.length ≤ 8192
    · have hsl := seal_len l
      have hen := enc_len 9 l.length
      have hw := at_mod a (sealP l).length (by omega) (by omega)
      rw [pseal l hB h2 _ (by decide), Option.bind_some, if_pos rfl]
      rw [show (((sealP l).length : Int) == 0) = false from beq_eq_false_iff_ne.mpr (by omega)]
      simp only [towlinelaw01_WireTurned.j0]
      obtain ⟨hw1, m, hm, hw2⟩ := hw
      have hsb := seal_bs hB (show l.length < 18446744073709551616 by omega)
      have hrd : 0 ≤ rd (sealP l) (m : Int) ∧ rd (sealP l) (m : Int) < 256 := by rw [rd_nat hm]; exact hsb _ (List.getElem_mem hm)
      obtain ⟨y, hy, hyb, hyn⟩ := other (rd (sealP l) (m : Int)) a2 hrd
      have ho : wire_Open.f ((sealP l).set m y) = some ((openP ((sealP l).set m y)).1, ((openP ((sealP l).set m y)).2.1 : Int), (openP ((sealP l).set m y)).2.2) := by
        unfold wire_Open.f
        rw [if_pos ⟨bs_iff.2 (fun x hx => (List.mem_or_eq_of_mem_set hx).elim (hsb x) (fun e => e ▸ hyb)), by rw [List.length_set]; omega⟩]
      rw [if_neg (by decide), hw1, if_neg (by omega), hw2, if_pos (by omega), if_pos (by omega), Int.toNat_natCast, hy, ho, Option.bind_some]
      by_cases c : (openP ((sealP l).set m y)).2.2 = 0
      · rw [if_pos c, if_neg ?_, awake_le _ (by decide)]
        · rfl
        · intro e
          refine open_set l hB h2 m y hyb hm hyn (openP ((sealP l).set m y)).1 ?_
          refine Prod.ext rfl (Prod.ext ?_ c)
          exact Int.ofNat.inj e
      · rw [if_neg c, awake_le _ (by decide)]; rfl
    · rw [pseal_long l (by omega), Option.bind_some, if_neg (by decide)]
      simp only [towlinelaw01_WireTurned.j0]
      rw [if_pos trivial, if_neg (by decide), awake_le _ (by decide)]; rfl

end Go.Proofs.Ytleaiojilmkhaaa.Pure
