import Derived.Test.YtleaiojilmkhaaaReadBytes
import Derived.Test.YtleaiojilmkhaaaPlainT
namespace Go.Proofs.Ytleaiojilmkhaaa.Wire
open Go Go.RowKit Go.Proofs.YtleaiojilmkhaaaW.PrintWords Go.Proofs.YtleaiojilmkhaaaW.PrintLast Go.Proofs.YtleaiojilmkhaaaW.PrintMore
open Go.Proofs.Ytleaiojilmkhaaa.WBase
set_option linter.unusedVariables false
/-- A reader that no call made: nil, or one whose fields are zero. -/
def NB (v : Value) (w : World) : Prop := v = .pointer none ∨ ∃ g, v = .pointer (some ⟨g, 0, none⟩) ∧ w.heap[g]? = some (.cells #[.slice none 0 0, .int .i64 0, .int .i64 0, .bool false] 62 (0, 0))
theorem NB.drewN {v : Value} {w : World} (h : NB v w) (n : Nat) : NB v (w.drewN n) := h
theorem Err_nb (v : Value) (w : World) (h : NB v w) : Calls Try.prog 32 #[v] w fun e w' => e = .returned (.int .i64 6) ∧ Drawn0 w w' := by
  rcases h with rfl | ⟨g, rfl, hg⟩
  · go_enter Try.func32, Try.ntmps32
    go_wp2
    go_ret
    exact ⟨rfl, 0, rfl⟩
  · have hc_3 : w.cell? ⟨g, 3, none⟩ = some (.bool false) := (blk_cell hg 3).trans rfl
    clear hg
    go_enter Try.func32, Try.ntmps32
    go_wp2
    go_ret
    exact ⟨rfl, 0, rfl⟩
theorem Number_nb (v : Value) (w : World) (h : NB v w) : Calls Try.prog 33 #[v] w fun e w' => e = .returned (.int .u64 0) ∧ Drawn0 w w' := by
  have H := Aside0.mk h
  clear h
  go_enter Try.func33, Try.ntmps33
  go_wp2_with (fail)
  refine (Err_nb v _ H.out).mono ?_
  rintro e w1 ⟨rfl, ⟨n0, rfl⟩⟩
  go_wp2
  go_ret
  exact ⟨rfl, n0, rfl⟩
theorem Left_nb (v : Value) (w : World) (h : NB v w) : Calls Try.prog 31 #[v] w fun e w' => e = .returned (.int .i64 0) ∧ Drawn0 w w' := by
  have H := Aside0.mk h
  clear h
  go_enter Try.func31, Try.ntmps31
  go_wp2_with (fail)
  refine (Err_nb v _ H.out).mono ?_
  rintro e w1 ⟨rfl, ⟨n0, rfl⟩⟩
  go_wp2
  go_ret
  exact ⟨rfl, n0, rfl⟩
theorem End_nb (v : Value) (w : World) (h : NB v w) : Calls Try.prog 48 #[v] w fun e w' => e = .returned (.int .i64 6) ∧ Drawn0 w w' := by
  have H := Aside0.mk h
  clear h
  go_enter Try.func48, Try.ntmps48
  go_wp2_with (fail)
  refine (Err_nb v _ H.out).mono ?_
  rintro e w1 ⟨rfl, ⟨n0, rfl⟩⟩
  go_wp2
  go_ret
  exact ⟨rfl, n0, rfl⟩
theorem Bytes_nb (v : Value) (m : Int) (w : World) (h : NB v w) : Calls Try.prog 41 #[v, .int .i64 m] w fun e w' => e = .returned (.slice none 0 0) ∧ Drawn0 w w' := by
  have H := Aside0.mk h
  clear h
  go_enter Try.func41, Try.ntmps41
  go_wp2_with (fail)
  refine (Err_nb v _ H.out).mono ?_
  rintro e w1 ⟨rfl, ⟨n0, rfl⟩⟩
  go_wp2
  go_ret
  exact ⟨rfl, n0, rfl⟩
theorem Within_nb (v : Value) (lo hi : Int) (w : World) (h : NB v w) : Calls Try.prog 46 #[v, .int .i64 lo, .int .i64 hi] w fun e w' => e = .returned (.int .i64 0) ∧ Drawn0 w w' := by
  have H := Aside0.mk h
  clear h
  go_enter Try.func46, Try.ntmps46
  go_wp2_with (fail)
  refine (Left_nb v _ H.out).mono ?_
  rintro e w1 ⟨rfl, ⟨n0, rfl⟩⟩
  go_wp2_with (fail)
  refine (Number_nb v _ (H.out.drewN (n0))).mono ?_
  rintro e w1 ⟨rfl, ⟨n1, rfl⟩⟩
  go_wp2_with (fail)
  refine (Err_nb v _ (H.out.drewN (n0 + n1))).mono ?_
  rintro e w1 ⟨rfl, ⟨n2, rfl⟩⟩
  go_wp2
  go_ret
  exact ⟨rfl, n0 + n1 + n2, rfl⟩
theorem Bool_nb (v : Value) (w : World) (h : NB v w) : Calls Try.prog 47 #[v] w fun e w' => e = .returned (.bool false) ∧ Drawn0 w w' := by
  have H := Aside0.mk h
  clear h
  go_enter Try.func47, Try.ntmps47
  go_wp2_with (fail)
  refine (Within_nb v 0 1 _ H.out).mono ?_
  rintro e w1 ⟨rfl, ⟨n0, rfl⟩⟩
  go_wp2
  go_ret
  exact ⟨rfl, n0, rfl⟩
end Go.Proofs.Ytleaiojilmkhaaa.Wire
