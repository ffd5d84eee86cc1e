/- The example of the laws, as one contract; a number with a sign that is read back. -/
import Derived.Test.YtleaiojilmkhaaaPWireBackx
import Derived.Test.YtleaiojilmkhaaaNobody
import Derived.Test.YtleaiojilmkhaaaExt
import Derived.Test.YtleaiojilmkhaaaPlainT
import Derived.Test.YtleaiojilmkhaaaPlainX
namespace Go.Proofs.Ytleaiojilmkhaaa.Wk
open Go Go.RowKit Go.Proofs.YtleaiojilmkhaaaW.PrintWords Go.Proofs.YtleaiojilmkhaaaW.PrintLast Go.Proofs.YtleaiojilmkhaaaW.PrintMore Go.Proofs.Ytleaiojilmkhaaa.Wire
open Go.Proofs.Ytleaiojilmkhaaa.PWireBack
set_option linter.unusedVariables false
theorem awake_t : towlinelaw01_awake.f 100 = some true := by decide +kernel
theorem awake_any (w : World) : Calls Try.prog 16 #[] w fun e w' => e = .returned (.bool true) ∧ Below w.heap.size w w' := towlinelaw01_awake.calls 100 true w awake_t
theorem Back_any (m : Nat) (h : m < 18446744073709551616) (w : World) : Calls Try.prog 28 #[.int .u64 (m : Int)] w fun e w' => e = .returned (.int .i64 (backP m)) ∧ Drawn0 w w' :=
  wire_Back.calls (m : Int) (backP m) w (congrArg some (back_w m h))
theorem Int_nb (v : Value) (w : World) (h : NB v w) : Calls Try.prog 40 #[v] w fun e w' => e = .returned (.int .i64 0) ∧ Drawn0 w w' := by
  have H := Aside0.mk h
  clear h
  have b0 := @Back_any 0 (by decide)
  rw [show backP ((0 : Nat) : Int) = 0 by decide, show ((0 : Nat) : Int) = 0 from rfl] at b0
  have HB0 := Aside0.mk b0
  clear b0
  go_enter Try.func40, Try.ntmps40
  go_wp2_with (fail)
  refine (Number_nb v _ H.out).mono ?_
  rintro e w1 ⟨rfl, ⟨n0, rfl⟩⟩
  go_wp2_with (fail)
  refine (HB0.out _).mono ?_
  rintro e w1 ⟨rfl, ⟨n1, rfl⟩⟩
  go_wp2
  go_ret
  exact ⟨rfl, n0 + n1, rfl⟩
end Go.Proofs.Ytleaiojilmkhaaa.Wk
