/- What Turn and Back answer. -/
import Derived.Test.YtleaiojilmkhaaaPWireTurnsx1
import Derived.Test.YtleaiojilmkhaaaPlainT
import Derived.Test.YtleaiojilmkhaaaExt
import Derived.Test.YtleaiojilmkhaaaPlainS
namespace Go.Proofs.Ytleaiojilmkhaaa.Pure
open Go Go.RowKit Go.Proofs.Ytleaiojilmkhaaa.PWireTurns Go.Proofs.YtleaiojilmkhaaaW.PrintWords Go.Proofs.YtleaiojilmkhaaaW.PrintLast Go.Proofs.YtleaiojilmkhaaaW.PrintMore Go.Proofs.Ytleaiojilmkhaaa.Wire

theorem awake_t : towlinelaw01_awake.f 100 = some true := by decide +kernel
theorem WireTurns : towlinelaw01_WireTurns.Pure := by
  intro n m hn hm
  have hn' := wf_i64 hn
  have hm' := wf_u64 hm
  have tw : ∀ n : Int, -9223372036854775808 ≤ n ∧ n ≤ 9223372036854775807 → wire_Turn.f n = some (turnP n) := fun n h => by unfold wire_Turn.f; rw [turn_w n h]
  have tr : ∀ n : Int, -9223372036854775808 ≤ n ∧ n ≤ 9223372036854775807 → towlineref01_Turn.f n = some (turnP n) := fun n h => by
    unfold towlineref01_Turn.f
    by_cases h0 : n ≥ 0
    · rw [if_pos h0, turn_r0 n h h0]
    · rw [if_neg h0, turn_r1 n h h0]
  have bw : ∀ m : Int, 0 ≤ m ∧ m < 18446744073709551616 → wire_Back.f m = some (backP m) := fun m h => by
    obtain ⟨x, rfl⟩ := Int.eq_ofNat_of_zero_le h.1
    unfold wire_Back.f; rw [back_w x (by omega)]
  have br : towlineref01_Back.f m = some (backP m) := by
    obtain ⟨x, rfl⟩ := Int.eq_ofNat_of_zero_le hm'.1
    unfold towlineref01_Back.f
    by_cases h0 : Int.tmod (x : Int) 2 = 0
    · rw [if_pos h0, back_r0 x (by omega) h0]
    · rw [if_neg h0, back_r1 x (by omega) h0]
  refine ⟨100, ?_⟩
  unfold towlinelaw01_WireTurns.f
  rw [tw n hn', tr n hn', bw m hm', br]
  simp only [Option.bind_some]
  rw [bw _ (turn_range n hn'), tw _ (back_range m hm'), back_turn, turn_back m hm'.1, awake_t]
  simp

end Go.Proofs.Ytleaiojilmkhaaa.Pure
