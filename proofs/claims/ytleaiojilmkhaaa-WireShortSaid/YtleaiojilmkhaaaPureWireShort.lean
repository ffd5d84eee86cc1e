/- How many bytes a number has. -/
import Derived.Test.YtleaiojilmkhaaaPWireShortx1
import Derived.Test.YtleaiojilmkhaaaPlainT
import Derived.Test.YtleaiojilmkhaaaExt
import Derived.Test.YtleaiojilmkhaaaPlainS
namespace Go.Proofs.Ytleaiojilmkhaaa.Pure
open Go Go.RowKit Go.Proofs.Ytleaiojilmkhaaa.PWireShort Go.Proofs.YtleaiojilmkhaaaW.PrintWords Go.Proofs.YtleaiojilmkhaaaW.PrintLast Go.Proofs.YtleaiojilmkhaaaW.PrintMore Go.Proofs.Ytleaiojilmkhaaa.Wire

theorem awake_t : towlinelaw01_awake.f 100 = some true := by decide +kernel
theorem enc_mono : ∀ (f m n : Nat), m ≤ n → (enc f m).length ≤ (enc f n).length := by
  intro f
  induction f with
  | zero => intro m n h; simp [enc]
  | succ f ih =>
    intro m n h
    unfold enc
    by_cases hm : m < 128
    · rw [if_pos hm]
      have := List.length_pos_iff.2 (enc_ne (f + 1) n)
      unfold enc at this
      simp only [List.length_singleton]; omega
    · rw [if_neg hm, if_neg (by omega)]
      simp only [List.length_cons]
      have := ih (m / 128) (n / 128) (Nat.div_le_div_right h)
      omega
theorem WireShort : towlinelaw01_WireShort.Pure := by
  intro n m hn hm
  have hn' := wf_u64 hn
  have hm' := wf_u64 hm
  have h1 : 0 ≤ mn n m ∧ mn n m < 18446744073709551616 := by unfold mn; split <;> omega
  have h2 : 0 ≤ mx n m ∧ mx n m < 18446744073709551616 := by unfold mx; split <;> omega
  have h3 : mn n m ≤ mx n m := by unfold mn mx; split <;> split <;> omega
  have hp : ∀ x : Int, 0 ≤ x ∧ x < 18446744073709551616 → wire_Put.f [] [x] = some (enc 9 x.toNat) := fun x h => by
    unfold wire_Put.f
    rw [if_pos ⟨by simp, by simp [u64s]; omega, by simp⟩]
    simp [Wire.encs]
  refine ⟨100, ?_⟩
  unfold towlinelaw01_WireShort.f
  rw [hp _ h1, hp _ h2]
  simp only [Option.bind_some]
  have l1 := List.length_pos_iff.2 (enc_ne 9 (mn n m).toNat)
  have l2 := enc_len 9 (mx n m).toNat
  have l3 := enc_mono 9 _ _ (Int.toNat_le_toNat h3)
  rw [if_pos (by omega), if_pos (by omega), if_pos (by omega), awake_t]
  rfl

end Go.Proofs.Ytleaiojilmkhaaa.Pure
