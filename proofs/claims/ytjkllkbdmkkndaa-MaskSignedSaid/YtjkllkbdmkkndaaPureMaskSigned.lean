/- The statement MaskSigned over numbers alone: the number with a sign that any lowest bits of any word are. -/
import Derived.Test.YtjkllkbdmkkndaaPMaskSignedx2
import Derived.Test.YtjkllkbdmkkndaaBits
import Derived.Test.YtjkllkbdmkkndaaPlainA
namespace Go.Proofs.Ytjkllkbdmkkndaa.Pure
open Go Go.RowKit Go.Proofs.Ytjkllkbdmkkndaa.PMaskSigned Go.Proofs.YtjkllkbdmkkndaaW.PrintWords Go.Proofs.YtjkllkbdmkkndaaW.PrintLast Go.Proofs.YtjkllkbdmkkndaaW.PrintMore Go.Proofs.Ytjkllkbdmkkndaa.Bits Go.Proofs.Ytjkllkbdmkkndaa.Ref

theorem shl_t (x n : Nat) (hn : n ≤ 64) : shl .u64 (x : Int) (n : Int) = ((x * 2 ^ n % 2 ^ 64 : Nat) : Int) := by
  unfold shl
  rw [Int.toNat_natCast, show IntKind.u64.bits = 64 from rfl, Nat.min_eq_left hn, show (x : Int) * 2 ^ n = ((x * 2 ^ n : Nat) : Int) from by push_cast; rfl, wrap_nat]
theorem shr_i64 (y : Int) (n : Nat) (hn : n ≤ 64) : shr .i64 y (n : Int) = y / ((2 ^ n : Nat) : Int) := by
  unfold shr
  rw [Int.toNat_natCast, show IntKind.i64.bits = 64 from rfl, Nat.min_eq_left hn]; push_cast; rfl
theorem awake_t : towlinelaw02_awake.f 20 = some true := by decide +kernel
theorem MaskSigned : towlinelaw02_MaskSigned.Pure := by
  intro a n ha hn
  have ha' := wf_u64 ha
  obtain ⟨x, rfl⟩ := Int.eq_ofNat_of_zero_le ha'.1
  refine ⟨20, ?_⟩
  have hA := awake_t
  have key : mask_Signed.f (x : Int) n = towlineref02_Signed.f (x : Int) n := by
    unfold mask_Signed.f towlineref02_Signed.f
    rw [if_pos (show 0 ≤ (x : Int) ∧ (x : Int) < 18446744073709551616 by omega)]
    by_cases h1 : n < 1
    · rw [if_pos h1, if_pos (.inl h1)]
    · by_cases h2 : n > 64
      · rw [if_neg h1, if_pos h2, if_pos (.inr h2)]
      · obtain ⟨b, rfl⟩ := Int.eq_ofNat_of_zero_le (show 0 ≤ n by omega)
        have e : wrap64 (64 - (b : Int)) = ((64 - b : Nat) : Int) := by unfold wrap64; omega
        rw [if_neg h1, if_neg h2, if_neg (show ¬ ((b : Int) < 1 ∨ 64 < (b : Int)) by omega), e, if_pos (show (0 : Int) ≤ ((64 - b : Nat) : Int) by omega), shl_t x _ (by omega), shr_i64 _ _ (by omega), signed_shift x b (by omega) (by omega), Int.toNat_natCast, Int.toNat_natCast]
  have hs : ∃ r, towlineref02_Signed.f (x : Int) n = some r := by
    unfold towlineref02_Signed.f; rw [if_pos (by omega)]; split <;> exact ⟨_, rfl⟩
  obtain ⟨r, hr⟩ := hs
  unfold towlinelaw02_MaskSigned.f
  rw [key, hr, Option.bind_some, Option.bind_some, if_pos rfl, hA]; rfl

end Go.Proofs.Ytjkllkbdmkkndaa.Pure
