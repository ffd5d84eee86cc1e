/- A reader that no call made reads nothing. -/
import Derived.Test.YtleaiojilmkhaaaAw
namespace Go.Proofs.Ytleaiojilmkhaaa.Wk
open Go Go.RowKit Go.Proofs.YtleaiojilmkhaaaW.PrintWords Go.Proofs.YtleaiojilmkhaaaW.PrintLast Go.Proofs.YtleaiojilmkhaaaW.PrintMore Go.Proofs.Ytleaiojilmkhaaa.Wire
set_option linter.unusedVariables false
/-- The two readers' row, and that they are none. -/
def Two (w0 : World) (b g : Nat) (W : World) : Prop := W.cell? ⟨b, 0, none⟩ = some (.pointer none) ∧ W.cell? ⟨b, 1, none⟩ = some (.pointer (some ⟨g, 0, none⟩)) ∧ NB (.pointer none) W ∧ NB (.pointer (some ⟨g, 0, none⟩)) W ∧ Below w0.heap.size w0 W
theorem Two.drewN {w0 W : World} {b g : Nat} (h : Two w0 b g W) (n : Nat) : Two w0 b g (W.drewN n) := ⟨h.1, h.2.1, h.2.2.1, h.2.2.2.1, pw_below_drewN h.2.2.2.2 n⟩
set_option maxHeartbeats 8000000 in
set_option maxRecDepth 100000 in
theorem WireNobody (a0 a1 : Int) (w : World) (w0 : (Lit.int .i64 a0).wf = true) (w1 : (Lit.int .i64 a1).wf = true) : Calls Try.prog 14 #[.int .i64 a0, .int .i64 a1] w fun e w' => e = .returned (.bool true) ∧ Below w.heap.size w w' := by
  have H0 := Aside0.mk (show Two w (w.heap.size + 1) w.heap.size ((w.alloc (Obj.cells #[Value.slice none 0 0, Value.int IntKind.i64 0, Value.int IntKind.i64 0, Value.bool false] 62)).alloc (Obj.cells #[Value.pointer none, Value.pointer (some { block := w.heap.size, off := 0 })] 43)) from by
    have e : (w.alloc (Obj.cells #[Value.slice none 0 0, Value.int IntKind.i64 0, Value.int IntKind.i64 0, Value.bool false] 62)).heap.size = w.heap.size + 1 := by simp
    have hb := blk_new (w.alloc (Obj.cells #[Value.slice none 0 0, Value.int IntKind.i64 0, Value.int IntKind.i64 0, Value.bool false] 62)) (.cells #[Value.pointer none, Value.pointer (some { block := w.heap.size, off := 0 })] 43)
    rw [e] at hb
    exact ⟨(blk_cell hb 0).trans rfl, (blk_cell hb 1).trans rfl, .inl rfl, .inr ⟨_, rfl, blk_alloc (blk_new w _) _⟩, below_alloc (below_alloc (Below.refl _ _) _) _⟩)
  go_enter Try.func14, Try.ntmps14
  go_wp2_with (fail)
  go_loopw [11] (fun v11 wr => ∃ k : Nat, k ≤ 2 ∧ v11 = .int .i64 (k : Int) ∧ Aside0 (Two w (w.heap.size + 1) w.heap.size wr)) (fun v11 _ => (2 - intOf v11).toNat)
  case atStart => exact ⟨0, by omega, rfl, H0⟩
  case round =>
    obtain ⟨k, hk, rfl, H⟩ := hrel
    clear H0
    have hk3 : k = 0 ∨ k = 1 ∨ k = 2 := by omega
    clear hk
    rcases hk3 with rfl | rfl | rfl
    · have hc := H.out.1
      go_wp2_with (fail)
      refine (Number_nb (.pointer none) _ H.out.2.2.1).mono ?_
      rintro e w1 ⟨rfl, ⟨n0, rfl⟩⟩
      go_wp2_with (fail)
      refine (Within_nb (.pointer none) a0 a1 _ (H.out.2.2.1.drewN (n0))).mono ?_
      rintro e w1 ⟨rfl, ⟨n1, rfl⟩⟩
      go_wp2_with (fail)
      refine (Int_nb (.pointer none) _ (H.out.2.2.1.drewN (n0 + n1))).mono ?_
      rintro e w1 ⟨rfl, ⟨n2, rfl⟩⟩
      go_wp2_with (fail)
      refine (Bool_nb (.pointer none) _ (H.out.2.2.1.drewN (n0 + n1 + n2))).mono ?_
      rintro e w1 ⟨rfl, ⟨n3, rfl⟩⟩
      go_wp2_with (fail)
      refine (Bytes_nb (.pointer none) a1 _ (H.out.2.2.1.drewN (n0 + n1 + n2 + n3))).mono ?_
      rintro e w1 ⟨rfl, ⟨n4, rfl⟩⟩
      go_wp2_with (fail)
      refine (Left_nb (.pointer none) _ (H.out.2.2.1.drewN (n0 + n1 + n2 + n3 + n4))).mono ?_
      rintro e w1 ⟨rfl, ⟨n5, rfl⟩⟩
      go_wp2_with (fail)
      refine (Err_nb (.pointer none) _ (H.out.2.2.1.drewN (n0 + n1 + n2 + n3 + n4 + n5))).mono ?_
      rintro e w1 ⟨rfl, ⟨n6, rfl⟩⟩
      go_wp2_with (fail)
      refine (End_nb (.pointer none) _ (H.out.2.2.1.drewN (n0 + n1 + n2 + n3 + n4 + n5 + n6))).mono ?_
      rintro e w1 ⟨rfl, ⟨n7, rfl⟩⟩
      go_wp2
      go_roundw
      case rel => exact ⟨1, by omega, rfl, ⟨H.out.drewN _⟩⟩
      case measure => simp [intOf]
    · have hc := H.out.2.1
      go_wp2_with (fail)
      refine (Number_nb (.pointer (some ⟨w.heap.size, 0, none⟩)) _ H.out.2.2.2.1).mono ?_
      rintro e w1 ⟨rfl, ⟨n0, rfl⟩⟩
      go_wp2_with (fail)
      refine (Within_nb (.pointer (some ⟨w.heap.size, 0, none⟩)) a0 a1 _ (H.out.2.2.2.1.drewN (n0))).mono ?_
      rintro e w1 ⟨rfl, ⟨n1, rfl⟩⟩
      go_wp2_with (fail)
      refine (Int_nb (.pointer (some ⟨w.heap.size, 0, none⟩)) _ (H.out.2.2.2.1.drewN (n0 + n1))).mono ?_
      rintro e w1 ⟨rfl, ⟨n2, rfl⟩⟩
      go_wp2_with (fail)
      refine (Bool_nb (.pointer (some ⟨w.heap.size, 0, none⟩)) _ (H.out.2.2.2.1.drewN (n0 + n1 + n2))).mono ?_
      rintro e w1 ⟨rfl, ⟨n3, rfl⟩⟩
      go_wp2_with (fail)
      refine (Bytes_nb (.pointer (some ⟨w.heap.size, 0, none⟩)) a1 _ (H.out.2.2.2.1.drewN (n0 + n1 + n2 + n3))).mono ?_
      rintro e w1 ⟨rfl, ⟨n4, rfl⟩⟩
      go_wp2_with (fail)
      refine (Left_nb (.pointer (some ⟨w.heap.size, 0, none⟩)) _ (H.out.2.2.2.1.drewN (n0 + n1 + n2 + n3 + n4))).mono ?_
      rintro e w1 ⟨rfl, ⟨n5, rfl⟩⟩
      go_wp2_with (fail)
      refine (Err_nb (.pointer (some ⟨w.heap.size, 0, none⟩)) _ (H.out.2.2.2.1.drewN (n0 + n1 + n2 + n3 + n4 + n5))).mono ?_
      rintro e w1 ⟨rfl, ⟨n6, rfl⟩⟩
      go_wp2_with (fail)
      refine (End_nb (.pointer (some ⟨w.heap.size, 0, none⟩)) _ (H.out.2.2.2.1.drewN (n0 + n1 + n2 + n3 + n4 + n5 + n6))).mono ?_
      rintro e w1 ⟨rfl, ⟨n7, rfl⟩⟩
      go_wp2
      go_roundw
      case rel => exact ⟨2, by omega, rfl, ⟨H.out.drewN _⟩⟩
      case measure => simp [intOf]
    · go_wp2_with (fail)
      refine (awake_any _).mono ?_
      rintro e w1 ⟨rfl, hB⟩
      have HB := Aside0.mk (below_step H.out.2.2.2.2 hB)
      clear hB
      go_wp2
      go_ret
      exact ⟨rfl, HB.out⟩
end Go.Proofs.Ytleaiojilmkhaaa.Wk
