/- The statement MaskNarrow over numbers alone: any number as fewer bits with a sign hold it. -/
import Derived.Test.YtjkllkbdmkkndaaPMaskNarrowx2
import Derived.Test.YtjkllkbdmkkndaaBits
import Derived.Test.YtjkllkbdmkkndaaPlainA
namespace Go.Proofs.Ytjkllkbdmkkndaa.Pure
open Go Go.RowKit Go.Proofs.Ytjkllkbdmkkndaa.PMaskNarrow Go.Proofs.YtjkllkbdmkkndaaW.PrintWords Go.Proofs.YtjkllkbdmkkndaaW.PrintLast Go.Proofs.YtjkllkbdmkkndaaW.PrintMore Go.Proofs.Ytjkllkbdmkkndaa.Bits Go.Proofs.Ytjkllkbdmkkndaa.Ref

theorem awake_t : towlinelaw02_awake.f 20 = some true := by decide +kernel
theorem ref_t (n : Int) (b : Nat) (h1 : 1 ≤ b) (h64 : b ≤ 64) : towlineref02_Signed.f (IntKind.u64.wrap n) (b : Int) = some (signedOf (n % 18446744073709551616).toNat b) := by
  unfold towlineref02_Signed.f
  rw [wrap_u64, if_pos (by omega), if_neg (by omega), Int.toNat_natCast]
theorem MaskNarrow : towlinelaw02_MaskNarrow.Pure := by
  intro n hn
  have hn' := wf_i64 hn
  refine ⟨20, ?_⟩
  have hA := awake_t
  have r8 := ref_t n 8 (by decide) (by decide)
  have r16 := ref_t n 16 (by decide) (by decide)
  have r32 := ref_t n 32 (by decide) (by decide)
  rw [signedOf_eq _ _ (by decide) (by decide)] at r8 r16 r32
  unfold towlinelaw02_MaskNarrow.f mask_Narrow.f
  rw [Option.bind_some]
  simp only []
  have e8 : wrap64 (IntKind.i8.wrap n) = if (n % 18446744073709551616).toNat % 2 ^ 8 < 2 ^ (8 - 1) then (((n % 18446744073709551616).toNat % 2 ^ 8 : Nat) : Int) else (((n % 18446744073709551616).toNat % 2 ^ 8 : Nat) : Int) - ((2 ^ 8 : Nat) : Int) := by
    have : IntKind.i8.wrap n = if 128 ≤ n % 256 then n % 256 - 256 else n % 256 := by
      simp [IntKind.wrap, IntKind.bits, IntKind.signed]
    rw [this]; unfold wrap64
    split <;> split <;> omega
  have e16 : wrap64 (IntKind.i16.wrap n) = if (n % 18446744073709551616).toNat % 2 ^ 16 < 2 ^ (16 - 1) then (((n % 18446744073709551616).toNat % 2 ^ 16 : Nat) : Int) else (((n % 18446744073709551616).toNat % 2 ^ 16 : Nat) : Int) - ((2 ^ 16 : Nat) : Int) := by
    have : IntKind.i16.wrap n = if 32768 ≤ n % 65536 then n % 65536 - 65536 else n % 65536 := by
      simp [IntKind.wrap, IntKind.bits, IntKind.signed]
    rw [this]; unfold wrap64
    split <;> split <;> omega
  have e32 : wrap64 (wrap32 n) = if (n % 18446744073709551616).toNat % 2 ^ 32 < 2 ^ (32 - 1) then (((n % 18446744073709551616).toNat % 2 ^ 32 : Nat) : Int) else (((n % 18446744073709551616).toNat % 2 ^ 32 : Nat) : Int) - ((2 ^ 32 : Nat) : Int) := by
    unfold wrap64 wrap32
    split <;> omega
  rw [show (8 : Int) = ((8 : Nat) : Int) from rfl, show (16 : Int) = ((16 : Nat) : Int) from rfl, show (32 : Int) = ((32 : Nat) : Int) from rfl, r8, Option.bind_some, if_pos e8, r16, Option.bind_some, if_pos e16, r32, Option.bind_some, if_pos e32, hA]; rfl

end Go.Proofs.Ytjkllkbdmkkndaa.Pure
