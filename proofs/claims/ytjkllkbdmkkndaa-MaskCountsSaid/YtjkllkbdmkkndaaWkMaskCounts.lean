/- The law MaskCounts, walked: how many any set has, the least, the greatest, all of them; for every word. -/
import Derived.Test.YtjkllkbdmkkndaaPMaskCountsx
import Derived.Test.YtjkllkbdmkkndaaPlainD
namespace Go.Proofs.Ytjkllkbdmkkndaa.Wk
open Go Go.RowKit Go.Proofs.YtjkllkbdmkkndaaW.PrintWords Go.Proofs.YtjkllkbdmkkndaaW.PrintLast Go.Proofs.YtjkllkbdmkkndaaW.PrintMore Go.Proofs.Ytjkllkbdmkkndaa.Bits Go.Proofs.Ytjkllkbdmkkndaa.Ref Go.Proofs.Ytjkllkbdmkkndaa.PMaskCounts
set_option linter.unusedVariables false
set_option linter.unusedSimpArgs false
theorem len_t (x : Nat) (hx : x < 2 ^ 64) : mask_Set_Len.f (x : Int) = some (cnt x 64 : Int) := congrArg some (lenI_eq x hx)
theorem awake_t : towlinelaw02_awake.f 20 = some true := by decide +kernel
def lowOf (x : Nat) : Int := if x = 0 then -1 else rd (bitsTo x 64) 0
theorem low_t (x : Nat) (hx : x < 2 ^ 64) : mask_Set_Low.f (x : Int) = some (lowOf x) := by
  unfold mask_Set_Low.f lowOf
  by_cases h : x = 0
  · subst h; rfl
  · rw [if_neg (show ¬ (x : Int) = 0 by omega), if_neg h]
    obtain ⟨p, m, e⟩ := low_split x h
    have hp := low_lt e hx
    have hpp : 2 ^ p < 2 ^ 64 := Nat.pow_lt_pow_right (by decide) hp
    have hq : 0 < 2 ^ p := Nat.two_pow_pos p
    have e1 : IntKind.u64.wrap (-(x : Int)) = ((2 ^ 64 - x : Nat) : Int) := by rw [wrap_u64]; omega
    rw [e1, and_u64 x _ hx (by omega), low_neg e hx, show ((2 ^ p : Nat) : Int) - 1 = ((2 ^ p - 1 : Nat) : Int) from by omega, wrap_nat, Nat.mod_eq_of_lt (by omega), len_t _ (by omega), cnt_low p (by omega), Option.bind_some, low_bits e 64, if_neg (by omega)]
    rfl
theorem all_t : ∀ d x : Nat, ∀ acc : List Int, cnt x 64 = d → x < 2 ^ 64 → acc.length + d ≤ 1000 → ∀ k, d < k → mask_Set_All.l0 k (x : Int) acc = some (acc ++ bitsTo x 64) := by
  intro d
  induction d with
  | zero =>
    intro x acc hd hx _ k hk
    obtain ⟨k, rfl⟩ : ∃ m, k = m + 1 := ⟨k - 1, by omega⟩
    have h0 : x = 0 := by
      by_cases h : x = 0
      · exact h
      · have := cnt_pos h hx; omega
    subst h0
    simp only [mask_Set_All.l0]
    rw [if_pos (by rfl)]
    have : bitsTo 0 64 = [] := by rfl
    rw [this, List.append_nil]
  | succ d ih =>
    intro x acc hd hx hl k hk
    obtain ⟨k, rfl⟩ : ∃ m, k = m + 1 := ⟨k - 1, by omega⟩
    have h0 : x ≠ 0 := by intro h; subst h; rw [cnt_zero] at hd; omega
    obtain ⟨p, m, e⟩ := low_split x h0
    have hp := low_lt e hx
    have hb := low_bits e 64
    rw [if_neg (by omega)] at hb
    have hpos : 0 < 2 ^ p := Nat.two_pow_pos p
    have hy : 2 ^ (p + 1) * m < 2 ^ 64 := by omega
    have hc : cnt (2 ^ (p + 1) * m) 64 = d := by
      have h1 := bitsTo_length x 64
      have h2 := bitsTo_length (2 ^ (p + 1) * m) 64
      rw [hb] at h1; simp at h1; omega
    simp only [mask_Set_All.l0]
    rw [if_neg (show ¬ (x : Int) = 0 by omega), low_t x hx, Option.bind_some, if_pos (by omega)]
    rw [show (x : Int) - 1 = ((x - 1 : Nat) : Int) from by omega, wrap_nat, Nat.mod_eq_of_lt (by omega), and_u64 x _ hx (by omega), low_clear e]
    rw [ih _ _ hc hy (by simp; omega) k (by omega), hb]
    unfold lowOf
    rw [if_neg h0, hb]
    simp [rd]
theorem high_t : ∀ e x n k : Nat, x ≠ 0 → x < 2 ^ (2 ^ (e + 1)) → e ≤ 5 → n + 2 ^ (e + 1) ≤ 64 → e + 1 < k → ∃ h : Nat, mask_Set_High.l0 k (x : Int) (n : Int) ((2 ^ e : Nat) : Int) = some ((n + h : Nat) : Int) ∧ 2 ^ h ≤ x ∧ x < 2 ^ (h + 1) := by
  intro e
  induction e with
  | zero =>
    intro x n k h0 hx he hn hk
    obtain ⟨k, rfl⟩ : ∃ m, k = m + 2 := ⟨k - 2, by omega⟩
    have hx4 : x < 4 := hx
    have hs : shr .u64 (x : Int) ((2 ^ 0 : Nat) : Int) = ((x / 2 : Nat) : Int) := by
      unfold shr; rw [Int.toNat_natCast, show IntKind.u64.bits = 64 from rfl, Nat.min_eq_left (by decide)]; omega
    simp only [mask_Set_High.l0]
    rw [hs, if_pos (by decide), if_pos (by decide)]
    have e0 : ((2 ^ 0 : Nat) : Int) / 2 = 0 := by decide
    rw [e0, if_neg (show ¬ ((0 : Int) > 0) by decide), if_neg (show ¬ ((0 : Int) > 0) by decide)]
    by_cases h : x / 2 = 0
    · rw [h, if_pos (by rfl)]
      exact ⟨0, rfl, by omega, by omega⟩
    · rw [if_neg (by omega)]
      refine ⟨1, ?_, by omega, by omega⟩
      rw [show wrap64 ((n : Int) + ((2 ^ 0 : Nat) : Int)) = ((n + 1 : Nat) : Int) from by unfold wrap64; omega]
  | succ e ih =>
    intro x n k h0 hx he hn hk
    obtain ⟨k, rfl⟩ : ∃ m, k = m + 1 := ⟨k - 1, by omega⟩
    have hp6 : 2 ^ (e + 1) ≤ 2 ^ 5 := Nat.pow_le_pow_right (by decide) he
    have hpow : 2 ^ (e + 1) = 2 ^ e + 2 ^ e := by rw [Nat.pow_succ]; omega
    have hpos : 0 < 2 ^ e := Nat.two_pow_pos e
    have hs : shr .u64 (x : Int) ((2 ^ (e + 1) : Nat) : Int) = ((x / 2 ^ 2 ^ (e + 1) : Nat) : Int) := by
      unfold shr; rw [Int.toNat_natCast, show IntKind.u64.bits = 64 from rfl, Nat.min_eq_left (by omega)]; push_cast; rfl
    simp only [mask_Set_High.l0]
    rw [hs, if_pos (by omega), if_pos (by omega), show ((2 ^ (e + 1) : Nat) : Int) / 2 = ((2 ^ e : Nat) : Int) from by omega]
    have hq : 0 < 2 ^ 2 ^ (e + 1) := Nat.two_pow_pos _
    by_cases h : x / 2 ^ 2 ^ (e + 1) = 0
    · rw [h, if_pos (by rfl)]
      have : x < 2 ^ 2 ^ (e + 1) := by
        rcases Nat.div_eq_zero_iff.1 h with h | h
        · omega
        · exact h
      exact ih x n k h0 this (by omega) (by rw [Nat.pow_succ 2 (e + 1)] at hn; omega) (by omega)
    · rw [if_neg (by omega), show wrap64 ((n : Int) + ((2 ^ (e + 1) : Nat) : Int)) = ((n + 2 ^ (e + 1) : Nat) : Int) from by unfold wrap64; omega]
      have hlt : x / 2 ^ 2 ^ (e + 1) < 2 ^ 2 ^ (e + 1) := by
        rw [Nat.div_lt_iff_lt_mul hq, ← Nat.pow_add, show 2 ^ (e + 1) + 2 ^ (e + 1) = 2 ^ (e + 1 + 1) from by rw [Nat.pow_succ 2 (e + 1)]; omega]; exact hx
      rw [Nat.pow_succ 2 (e + 1)] at hn
      obtain ⟨h', h1, h2, h3⟩ := ih (x / 2 ^ 2 ^ (e + 1)) (n + 2 ^ (e + 1)) k h hlt (by omega) (by omega) (by omega)
      refine ⟨2 ^ (e + 1) + h', ?_, ?_, ?_⟩
      · rw [h1, show n + 2 ^ (e + 1) + h' = n + (2 ^ (e + 1) + h') from by omega]
      · rw [Nat.pow_add]; exact Nat.le_trans (Nat.mul_le_mul_left _ h2) (Nat.mul_div_le x _)
      · rw [show 2 ^ (e + 1) + h' + 1 = 2 ^ (e + 1) + (h' + 1) from by omega, Nat.pow_add]
        have h4 : x / 2 ^ 2 ^ (e + 1) + 1 ≤ 2 ^ (h' + 1) := h3
        exact Nat.lt_of_lt_of_le (Nat.lt_mul_div_succ x hq) (Nat.mul_le_mul_left _ h4)
def highOf (x : Nat) : Int := if x = 0 then -1 else rd (bitsTo x 64) ((bitsTo x 64).length - 1 : Nat)
theorem high_all (x : Nat) (hx : x < 2 ^ 64) : mask_Set_High.f 20 (x : Int) = some (highOf x) := by
  unfold mask_Set_High.f highOf
  by_cases h : x = 0
  · subst h; rfl
  · rw [if_neg (show ¬ (x : Int) = 0 by omega), if_neg h]
    obtain ⟨p, h1, h2, h3⟩ := high_t 5 x 0 20 h hx (by decide) (by decide) (by decide)
    have hp : p < 64 := by
      have : 2 ^ p < 2 ^ 64 := by omega
      exact (Nat.pow_lt_pow_iff_right (by decide)).1 this
    rw [show (32 : Int) = ((2 ^ 5 : Nat) : Int) from rfl, show (0 : Int) = ((0 : Nat) : Int) from rfl, h1, high_bits x p h2 h3 64 (by omega)]
    unfold rd
    simp
theorem equal_t : ∀ d : Nat, ∀ (l : List Int) (i : Nat), l.length ≤ 1000 → i ≤ l.length → l.length - i = d → ∀ k, d < k → slices_Equal_int_int.l0 k l l (l.length : Int) (i : Int) = some true := by
  intro d
  induction d with
  | zero =>
    intro l i hl hi hd k hk
    obtain ⟨k, rfl⟩ : ∃ m, k = m + 1 := ⟨k - 1, by omega⟩
    simp only [slices_Equal_int_int.l0]; rw [if_neg (by omega)]
  | succ d ih =>
    intro l i hl hi hd k hk
    obtain ⟨k, rfl⟩ : ∃ m, k = m + 1 := ⟨k - 1, by omega⟩
    simp only [slices_Equal_int_int.l0]
    rw [if_pos (by omega), if_pos (by omega), if_pos (by omega), if_pos (by omega), if_pos trivial, show wrap64 ((i : Int) + 1) = ((i + 1 : Nat) : Int) from by unfold wrap64; omega]
    exact ih l (i + 1) hl (by omega) (by omega) k (by omega)
set_option maxHeartbeats 2000000 in
set_option maxRecDepth 100000 in
theorem MaskCounts (a0 : Int) (w : World) (w0 : (Lit.int .u64 a0).wf = true) :
    Calls Try.prog 12 #[.int .u64 a0] w fun e w' => e = .returned (.bool true) ∧ Below w.heap.size w w' := by
  have ha := wf_u64 w0
  clear w0
  obtain ⟨x, rfl⟩ := Int.eq_ofNat_of_zero_le ha.1
  have HX := Aside0.mk (show x < 2 ^ 64 by omega)
  clear ha
  have HLEN := Aside0.mk (len_t x HX.out)
  have HLOW := Aside0.mk (low_t x HX.out)
  have HHIGH := Aside0.mk (high_all x HX.out)
  have hc64 := cnt_le x 64
  have hbl := bitsTo_length x 64
  have HALL := Aside0.mk (show mask_Set_All.f 100 (x : Int) = some (bitsTo x 64) from by unfold mask_Set_All.f; exact (all_t _ x [] rfl HX.out (by simp; omega) 100 (by omega)).trans (by rw [List.nil_append]))
  have HEQ := Aside0.mk (show slices_Equal_int_int.f 100 (bitsTo x 64) (bitsTo x 64) = some true from by unfold slices_Equal_int_int.f; rw [if_pos rfl]; exact equal_t _ _ 0 (by omega) (by omega) rfl 100 (by omega))
  have HA := Aside0.mk (fun W => All_calls x W)
  rw [← hbl] at HLEN hc64
  clear hbl
  by_cases h0 : x = 0
  · have hlow : lowOf x = -1 := if_pos h0
    have hhigh : highOf x = -1 := if_pos h0
    rw [hlow] at HLOW
    rw [hhigh] at HHIGH
    clear hlow hhigh
    have hl0 : (bitsTo x 64) = [] := by subst h0; rfl
    rw [hl0] at HLEN HALL HEQ HA
    clear hl0 h0 hc64
    go_enter Try.func12, Try.ntmps12
    go_wp2_with (fail)
    refine (From_calls x HX.out _).mono ?_
    rintro e w1 ⟨rfl, hb⟩
    have HB := Aside0.mk hb
    clear hb
    go_wp2_with (fail)
    refine (HA.out _).mono ?_
    rintro e w2 ⟨v, rfl, hR, hb⟩
    obtain ⟨A, c, rfl⟩ := Kd.R_slice hR
    have HC := Aside0.mk (Kd.R_reads' hR).2.2
    have HCc := Aside0.mk (Kd.R_reads' hR).2.1
    have n0 := Aside0.mk (below_then HB.out HB.out.size hb)
    clear HB hR hb
    have HB := n0
    clear n0
    go_wp2_with (fail)
    refine (mask_Set_Len.calls _ _ _ HLEN.out).mono ?_
    rintro e w' ⟨rfl, ⟨nd, rfl⟩⟩
    go_wp2_with (fail)
    refine (mask_Set_Low.calls _ _ _ HLOW.out).mono ?_
    rintro e w' ⟨rfl, ⟨nd2, rfl⟩⟩
    go_wp2_with (fail)
    refine (mask_Set_High.calls 20 _ _ _ HHIGH.out).mono ?_
    rintro e w' ⟨rfl, ⟨nd3, rfl⟩⟩
    go_wp2_with (fail)
    refine (mask_Set_All.calls 100 _ _ _ HALL.out).mono ?_
    rintro e w3 ⟨v, rfl, hR, hb⟩
    obtain ⟨A2, c2, rfl⟩ := Kd.R_slice hR
    have HC2 := Aside0.mk (Kd.R_reads' hR).2.2
    have HCc2 := Aside0.mk (Kd.R_reads' hR).2.1
    have n0 := Aside0.mk (below_step (by repeat (first | (with_reducible first | exact HB.out | apply below_alloc | apply pw_below_drewN | apply below_drew1) | exact HB.out)) hb)
    have HC1 := Aside0.mk (Kd.C_below (by repeat (first | exact HC.out | (with_reducible refine Kd.C_alloc ?_ _) | (with_reducible refine Kd.C_drewN ?_ _) | (with_reducible refine Kd.C_drew ?_))) hb)
    clear HB hR hb
    have HB := n0
    clear n0
    go_wp2_with (fail)
    refine (slices_Equal_int_int.calls 100 _ _ _ _ _ _ true _ HC2.out HCc2.out HC1.out HCc.out HEQ.out).mono ?_
    rintro e w' ⟨rfl, ⟨nd4, rfl⟩⟩
    go_wp2_with (fail)
    refine (towlinelaw02_awake.calls 20 true _ awake_t).mono ?_
    rintro e w5 ⟨rfl, hb⟩
    have HB5 := Aside0.mk (below_step (by repeat (first | (with_reducible first | exact HB.out | apply below_alloc | apply pw_below_drewN | apply below_drew1) | exact HB.out)) hb)
    clear hb
    go_wp2
    go_ret
    exact ⟨rfl, HB5.out⟩
  · have hpos : 0 < (bitsTo x 64).length := by rw [bitsTo_length]; exact cnt_pos h0 HX.out
    have hlow : lowOf x = rd (bitsTo x 64) 0 := if_neg h0
    have hhigh : highOf x = rd (bitsTo x 64) ((bitsTo x 64).length - 1 : Nat) := if_neg h0
    rw [hlow] at HLOW
    rw [hhigh] at HHIGH
    clear hlow hhigh h0
    generalize bitsTo x 64 = l at *
    obtain ⟨j, hj⟩ : ∃ j : Nat, j + 1 = l.length := ⟨l.length - 1, by omega⟩
    rw [show l.length - 1 = j from by omega] at HHIGH
    have hji : (l.length : Int) - 1 = (j : Int) := by omega
    have HJ := Aside0.mk hj
    have hjl : (j : Int) < (l.length : Int) := by omega
    clear hj
    go_enter Try.func12, Try.ntmps12
    go_wp2_with (fail)
    refine (From_calls x HX.out _).mono ?_
    rintro e w1 ⟨rfl, hb⟩
    have HB := Aside0.mk hb
    clear hb
    go_wp2_with (fail)
    refine (HA.out _).mono ?_
    rintro e w2 ⟨v, rfl, hR, hb⟩
    obtain ⟨A, c, rfl⟩ := Kd.R_slice hR
    have HC := Aside0.mk (Kd.R_reads' hR).2.2
    have HCc := Aside0.mk (Kd.R_reads' hR).2.1
    have n0 := Aside0.mk (below_then HB.out HB.out.size hb)
    clear HB hR hb
    have HB := n0
    clear n0
    obtain ⟨ad, e0, hx0⟩ := Kd.at_int HC.out 0 (by decide) (by omega)
    cases e0
    obtain ⟨ad', e1, hxj⟩ := Kd.at_int HC.out (j : Int) (by omega) (by omega)
    cases e1
    rw [Int.toNat_natCast] at hxj
    have hx0' : w2.cell? ad = some (.int .i64 (rd l 0)) := by have h := hx0; rw [show (0 : Int).toNat = 0 from rfl, Addr.add_zero'] at h; exact h
    have hjw : IntKind.i64.wrap ((l.length : Int) - 1) = (j : Int) := by rw [IntKind.wrap_i64]; omega
    have hjn : (j : Int).toNat = j := Int.toNat_natCast j
    have hj0 : (0 : Int) ≤ (j : Int) := by omega
    have hl0 : (0 : Int) < (l.length : Int) := by omega
    go_wp2_with (fail)
    go_quiet (fail)
    clear hjw hjn
    go_wp2_with (fail)
    refine (mask_Set_Len.calls _ _ _ HLEN.out).mono ?_
    rintro e w' ⟨rfl, ⟨nd, rfl⟩⟩
    go_wp2_with (fail)
    refine (mask_Set_Low.calls _ _ _ HLOW.out).mono ?_
    rintro e w' ⟨rfl, ⟨nd2, rfl⟩⟩
    go_wp2_with (fail)
    refine (mask_Set_High.calls 20 _ _ _ HHIGH.out).mono ?_
    rintro e w' ⟨rfl, ⟨nd3, rfl⟩⟩
    go_wp2_with (fail)
    refine (mask_Set_All.calls 100 _ _ _ HALL.out).mono ?_
    rintro e w3 ⟨v, rfl, hR, hb⟩
    obtain ⟨A2, c2, rfl⟩ := Kd.R_slice hR
    have HC2 := Aside0.mk (Kd.R_reads' hR).2.2
    have HCc2 := Aside0.mk (Kd.R_reads' hR).2.1
    have n0 := Aside0.mk (below_step (by repeat (first | (with_reducible first | exact HB.out | apply below_alloc | apply pw_below_drewN | apply below_drew1) | exact HB.out)) hb)
    have HC1 := Aside0.mk (Kd.C_below (by repeat (first | exact HC.out | (with_reducible refine Kd.C_alloc ?_ _) | (with_reducible refine Kd.C_drewN ?_ _) | (with_reducible refine Kd.C_drew ?_))) hb)
    clear HB hR hb
    have HB := n0
    clear n0
    go_wp2_with (fail)
    refine (slices_Equal_int_int.calls 100 _ _ _ _ _ _ true _ HC2.out HCc2.out HC1.out HCc.out HEQ.out).mono ?_
    rintro e w' ⟨rfl, ⟨nd4, rfl⟩⟩
    go_wp2_with (fail)
    refine (towlinelaw02_awake.calls 20 true _ awake_t).mono ?_
    rintro e w5 ⟨rfl, hb⟩
    have HB5 := Aside0.mk (below_step (by repeat (first | (with_reducible first | exact HB.out | apply below_alloc | apply pw_below_drewN | apply below_drew1) | exact HB.out)) hb)
    clear hb
    go_wp2
    go_ret
    exact ⟨rfl, HB5.out⟩
end Go.Proofs.Ytjkllkbdmkkndaa.Wk
