/- The law MaskTurned, walked: any set turned by any number; turned back it is it; for every word and number. -/
import Derived.Test.YtjkllkbdmkkndaaPMaskTurnedx
import Derived.Test.YtjkllkbdmkkndaaPlainB
namespace Go.Proofs.Ytjkllkbdmkkndaa.Wk
open Go Go.RowKit Go.Proofs.YtjkllkbdmkkndaaW.PrintWords Go.Proofs.YtjkllkbdmkkndaaW.PrintLast Go.Proofs.YtjkllkbdmkkndaaW.PrintMore Go.Proofs.Ytjkllkbdmkkndaa.Bits Go.Proofs.Ytjkllkbdmkkndaa.Ref Go.Proofs.Ytjkllkbdmkkndaa.PMaskTurned
set_option linter.unusedVariables false
theorem turned_t (x : Nat) (n : Int) (k : Nat) (hx : x < 2 ^ 64) (hk : (k : Int) = n % 64) : mask_Set_Turned.f (x : Int) n = some ((rotN x k : Nat) : Int) := by
  have e1 : IntKind.u64.wrap (64 - n % 64) = ((64 - k : Nat) : Int) := by rw [wrap_u64]; omega
  unfold mask_Set_Turned.f
  rw [and63, e1, if_pos (by omega), if_pos (by omega), ← hk]
  unfold shl shr
  rw [Int.toNat_natCast, Int.toNat_natCast, show IntKind.u64.bits = 64 from rfl, Nat.min_eq_left (by omega), Nat.min_eq_left (by omega), show (x : Int) * 2 ^ k = ((x * 2 ^ k : Nat) : Int) from by push_cast; rfl, wrap_nat, show (x : Int) / 2 ^ (64 - k) = ((x / 2 ^ (64 - k) : Nat) : Int) from by push_cast; rfl, or_u64 _ _ (Nat.mod_lt _ (by decide)) (Nat.lt_of_le_of_lt (Nat.div_le_self _ _) hx)]
  rfl
theorem len_t (x : Nat) (hx : x < 2 ^ 64) : mask_Set_Len.f (x : Int) = some (cnt x 64 : Int) := congrArg some (lenI_eq x hx)
theorem awake_t : towlinelaw02_awake.f 20 = some true := by decide +kernel
set_option maxHeartbeats 2000000 in
set_option maxRecDepth 100000 in
theorem MaskTurned (a0 a1 : Int) (w : World) (w0 : (Lit.int .u64 a0).wf = true) (w1 : (Lit.int .i64 a1).wf = true) :
    Calls Try.prog 9 #[.int .u64 a0, .int .i64 a1] w fun e w' => e = .returned (.bool true) ∧ Below w.heap.size w w' := by
  have ha := wf_u64 w0
  clear w0 w1
  obtain ⟨x, rfl⟩ := Int.eq_ofNat_of_zero_le ha.1
  have HX := Aside0.mk (show x < 2 ^ 64 by omega)
  clear ha
  obtain ⟨k, hk⟩ : ∃ k : Nat, (k : Int) = a1 % 64 := ⟨(a1 % 64).toNat, by omega⟩
  obtain ⟨q, hq⟩ : ∃ q : Int, a1.tmod 64 = q := ⟨_, rfl⟩
  have hbd := tmod64_bd a1
  rw [hq] at hbd
  obtain ⟨hq0, hq1, hqm⟩ := hbd
  obtain ⟨k2, hk2⟩ : ∃ k : Nat, (k : Int) = (-q) % 64 := ⟨((-q) % 64).toNat, by omega⟩
  have HT1 := Aside0.mk (turned_t x a1 k HX.out hk)
  have HT2 := Aside0.mk (turned_t (rotN x k) (-q) k2 (rotN_lt x k HX.out) hk2)
  have hback := rotN_back x k k2 HX.out (by omega) (by omega) (by omega)
  rw [hback] at HT2
  have HR := Aside0.mk (Turned_calls x a1 q hq hq0 hq1)
  have heq := turned_eq x a1 q k HX.out hk hq
  rw [heq] at HR
  have HL1 := Aside0.mk (len_t (rotN x k) (rotN_lt x k HX.out))
  have HL2 := Aside0.mk (len_t x HX.out)
  have hc := cnt_rotN x k HX.out (by omega)
  rw [hc] at HL1
  have HRL := Aside0.mk (rotN_lt x k HX.out)
  clear hk hk2 hqm hback heq hc
  generalize rotN x k = y at *
  generalize cnt x 64 = c at *
  go_enter Try.func9, Try.ntmps9
  go_wp2_with (fail)
  refine (mask_Set_Turned.calls _ _ _ _ HT1.out).mono ?_
  rintro e w' ⟨rfl, ⟨nd, rfl⟩⟩
  go_wp2_with (fail)
  refine (From_calls x HX.out _).mono ?_
  rintro e w2 ⟨rfl, hb⟩
  have HB2 := Aside0.mk (below_then (pw_below_drewN (Below.refl w.heap.size w) _) (by simp) hb)
  clear hb
  go_wp2_with (fail)
  refine (HR.out _).mono ?_
  rintro e w3 ⟨rfl, hb⟩
  have HB3 := Aside0.mk (below_then HB2.out HB2.out.size hb)
  clear hb
  go_wp2_with (fail)
  refine (Word_calls y HRL.out _).mono ?_
  rintro e w4 ⟨rfl, hb⟩
  have HB4 := Aside0.mk (below_then HB3.out HB3.out.size hb)
  clear hb
  go_wp2_with (fail)
  refine (mask_Set_Turned.calls _ _ _ _ HT1.out).mono ?_
  rintro e w' ⟨rfl, ⟨nd2, rfl⟩⟩
  go_wp2_with (fail)
  refine (mask_Set_Turned.calls _ _ _ _ HT2.out).mono ?_
  rintro e w' ⟨rfl, ⟨nd3, rfl⟩⟩
  go_wp2_with (fail)
  refine (mask_Set_Turned.calls _ _ _ _ HT1.out).mono ?_
  rintro e w' ⟨rfl, ⟨nd4, rfl⟩⟩
  go_wp2_with (fail)
  refine (mask_Set_Len.calls _ _ _ HL1.out).mono ?_
  rintro e w' ⟨rfl, ⟨nd5, rfl⟩⟩
  go_wp2_with (fail)
  refine (mask_Set_Len.calls _ _ _ HL2.out).mono ?_
  rintro e w' ⟨rfl, ⟨nd6, rfl⟩⟩
  go_wp2_with (fail)
  refine (towlinelaw02_awake.calls 20 true _ awake_t).mono ?_
  rintro e w5 ⟨rfl, hb⟩
  have HB5 := Aside0.mk (below_step (by repeat (first | (with_reducible first | exact HB4.out | apply below_alloc | apply pw_below_drewN | apply below_drew1) | exact HB4.out)) hb)
  clear hb
  go_wp2
  go_ret
  exact ⟨rfl, HB5.out⟩
end Go.Proofs.Ytjkllkbdmkkndaa.Wk
