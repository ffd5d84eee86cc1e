/- The statement MaskFlip over numbers alone: any word with its bits the other way around; flipped twice it is it. -/
import Derived.Test.YtjkllkbdmkkndaaPMaskFlipx2
import Derived.Test.YtjkllkbdmkkndaaBits
import Derived.Test.YtjkllkbdmkkndaaPlainA
namespace Go.Proofs.Ytjkllkbdmkkndaa.Pure
open Go Go.RowKit Go.Proofs.Ytjkllkbdmkkndaa.PMaskFlip Go.Proofs.YtjkllkbdmkkndaaW.PrintWords Go.Proofs.YtjkllkbdmkkndaaW.PrintLast Go.Proofs.YtjkllkbdmkkndaaW.PrintMore Go.Proofs.Ytjkllkbdmkkndaa.Bits Go.Proofs.Ytjkllkbdmkkndaa.Ref

theorem awake_t : towlinelaw02_awake.f 20 = some true := by decide +kernel
theorem len_t (x : Nat) (hx : x < 2 ^ 64) : mask_Set_Len.f (x : Int) = some (cnt x 64 : Int) := congrArg some (lenI_eq x hx)
theorem flip_t (x : Nat) (hx : x < 2 ^ 64) : mask_Flip.f (x : Int) = some ((flipN x : Nat) : Int) := by
  have l1 : swp 6148914691236517205 1 x < 2 ^ 64 := swp_lt _ _ _ (by decide) hx
  have l2 : swp 3689348814741910323 2 (swp 6148914691236517205 1 x) < 2 ^ 64 := swp_lt _ _ _ (by decide) l1
  have l3 : swp 1085102592571150095 4 (swp 3689348814741910323 2 (swp 6148914691236517205 1 x)) < 2 ^ 64 := swp_lt _ _ _ (by decide) l2
  have l4 : swp 71777214294589695 8 (swp 1085102592571150095 4 (swp 3689348814741910323 2 (swp 6148914691236517205 1 x))) < 2 ^ 64 := swp_lt _ _ _ (by decide) l3
  have l5 : swp 281470681808895 16 (swp 71777214294589695 8 (swp 1085102592571150095 4 (swp 3689348814741910323 2 (swp 6148914691236517205 1 x)))) < 2 ^ 64 := swp_lt _ _ _ (by decide) l4
  have e1 := swpI 6148914691236517205 1 x 2 rfl (by decide) hx
  have e2 := swpI 3689348814741910323 2 _ 4 rfl (by decide) l1
  have e3 := swpI 1085102592571150095 4 _ 16 rfl (by decide) l2
  have e4 := swpI 71777214294589695 8 _ 256 rfl (by decide) l3
  have e5 := swpI 281470681808895 16 _ 65536 rfl (by decide) l4
  have e6 := swp_last _ l5
  rw [show ((6148914691236517205 : Nat) : Int) = 6148914691236517205 from rfl] at e1
  rw [show ((3689348814741910323 : Nat) : Int) = 3689348814741910323 from rfl] at e2
  rw [show ((1085102592571150095 : Nat) : Int) = 1085102592571150095 from rfl] at e3
  rw [show ((71777214294589695 : Nat) : Int) = 71777214294589695 from rfl] at e4
  rw [show ((281470681808895 : Nat) : Int) = 281470681808895 from rfl] at e5
  unfold mask_Flip.f
  rw [e1, e2, e3, e4, e5, e6]; rfl
theorem MaskFlip : towlinelaw02_MaskFlip.Pure := by
  intro a ha
  have ha' := wf_u64 ha
  obtain ⟨x, rfl⟩ := Int.eq_ofNat_of_zero_le ha'.1
  have hx : x < 2 ^ 64 := by omega
  have hf := flipN_lt x hx
  have hA := awake_t
  have hr : towlineref02_Flip.f (x : Int) = some ((flipN x : Nat) : Int) := by
    unfold towlineref02_Flip.f; rw [if_pos (by omega), Int.toNat_natCast, flipN_eq x hx]
  refine ⟨20, ?_⟩
  unfold towlinelaw02_MaskFlip.f
  rw [flip_t x hx, Option.bind_some, hr, Option.bind_some, if_pos rfl, Option.bind_some, flip_t _ hf, Option.bind_some, flipN_flipN x hx, if_pos rfl, Option.bind_some, len_t _ hf, Option.bind_some, len_t x hx, Option.bind_some, cnt_flipN, if_pos rfl, hA]; rfl

end Go.Proofs.Ytjkllkbdmkkndaa.Pure
