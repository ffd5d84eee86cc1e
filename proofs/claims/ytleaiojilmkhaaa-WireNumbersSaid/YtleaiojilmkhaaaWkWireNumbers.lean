/- Numbers' bytes behind others. -/
import Derived.Test.YtleaiojilmkhaaaPWireNumbersx
import Derived.Test.YtleaiojilmkhaaaExt
import Derived.Test.YtleaiojilmkhaaaPlainT
import Derived.Test.YtleaiojilmkhaaaPlainX
import Derived.Test.YtleaiojilmkhaaaWRef
namespace Go.Proofs.Ytleaiojilmkhaaa.Wk
open Go Go.RowKit Go.Proofs.YtleaiojilmkhaaaW.PrintWords Go.Proofs.YtleaiojilmkhaaaW.PrintLast Go.Proofs.YtleaiojilmkhaaaW.PrintMore Go.Proofs.Ytleaiojilmkhaaa.Wire Go.Proofs.Ytleaiojilmkhaaa.PWireNumbers
set_option linter.unusedVariables false
theorem ono_reads {A A' : Option Addr} {l : List Int} {W : World} {base n c : Nat} {xs : List Int} (h : OnO A l W base (.slice A' n c) xs) : Kd.C (Kd.int .u8) W A' xs.length xs ∧ xs.length ≤ c := by
  rcases h with ⟨hv, hx, hC, _⟩ | h
  · injection hv with h1 h2 h3
    subst h1 h2 h3 hx
    exact ⟨hC, Nat.le_refl _⟩
  · exact ⟨(Kd.R_reads' h).2.2, by have h1 := (Kd.R_reads' h).1; have h2 := (Kd.R_reads' h).2.1; omega⟩
theorem awake_t : towlinelaw01_awake.f 100 = some true := by decide +kernel
theorem awake_le : ∀ k, 100 ≤ k → towlinelaw01_awake.f k = some true := by
  intro k hk
  induction k with
  | zero => omega
  | succ k ih =>
    rcases Nat.lt_or_ge k 100 with h | h
    · obtain rfl : k = 99 := by omega
      exact awake_t
    · exact towlinelaw01_awake.mono k true (ih h)
theorem rput_l1 (s : List Int) (x12 x13 : Int) : ∀ (f j k n : Nat) (acc : List Int), j + f = 9 → n < 128 ^ (f + 1) → n < 18446744073709551616 → acc.length + (11 - j) < 140737488355328 → f + 1 < k → ∃ k', k ≤ k' + f + 1 ∧ k' < k ∧ towlineref01_Put.l1 k acc (n : Int) s x12 x13 (j : Int) = towlineref01_Put.l0 k' (acc ++ enc f n) s x12 (wrap64 (x13 + 1)) := by
  intro f
  induction f with
  | zero =>
    intro j k n acc hj hn hn2 hl hk
    obtain ⟨k, rfl⟩ : ∃ k', k = k' + 1 := ⟨k - 1, by omega⟩
    refine ⟨k, by omega, by omega, ?_⟩
    simp only [towlineref01_Put.l1]
    rw [if_pos (by omega), if_pos (by omega), if_pos (by omega), show (n : Int) % 256 = (n : Int) by omega]
    rfl
  | succ f ih =>
    intro j k n acc hj hn hn2 hl hk
    obtain ⟨k, rfl⟩ : ∃ k', k = k' + 1 := ⟨k - 1, by omega⟩
    by_cases h : n < 128
    · refine ⟨k, by omega, by omega, ?_⟩
      simp only [towlineref01_Put.l1]
      rw [if_pos (by omega), if_pos (by omega), if_pos (by omega), show (n : Int) % 256 = (n : Int) by omega]
      unfold enc
      rw [if_pos h]
    · have hd : n / 128 < 128 ^ (f + 1) := by
        rw [Nat.pow_succ] at hn
        exact (Nat.div_lt_iff_lt_mul (by decide)).2 hn
      obtain ⟨k', h1, h2, h3⟩ := ih (j + 1) k (n / 128) (acc ++ [128 + (n : Int) % 128]) (by omega) hd (by omega) (by simp only [List.length_append, List.length_singleton]; omega) (by omega)
      refine ⟨k', by omega, by omega, ?_⟩
      simp only [towlineref01_Put.l1]
      rw [if_pos (by omega), if_neg (by omega), if_pos (by omega), Int.tmod_eq_emod_of_nonneg (by omega), Int.tdiv_eq_ediv_of_nonneg (by omega), show IntKind.u64.wrap (128 + (n : Int) % 128) % 256 = 128 + (n : Int) % 128 by rw [u64w]; omega, show IntKind.u64.wrap ((n : Int) / 128) = ((n / 128 : Nat) : Int) by rw [u64w]; omega, show wrap64 ((j : Int) + 1) = ((j + 1 : Nat) : Int) by unfold wrap64; omega, h3]
      rw [List.append_assoc]
      have e : enc (f + 1) n = (128 + (n : Int) % 128) :: enc f (n / 128) := by
        show (if n < 128 then _ else _) = _
        rw [if_neg h]
      rw [e]; rfl
theorem rput_l0 (s : List Int) (hs : ∀ x ∈ s, 0 ≤ x ∧ x < 18446744073709551616) (hlen : s.length < 140737488355328) : ∀ (r : List Int) (i k : Nat) (acc : List Int), s.drop i = r → i ≤ s.length → acc.length + 10 * r.length + 20 < 140737488355328 → 12 * r.length < k → towlineref01_Put.l0 k acc s (s.length : Int) (i : Int) = some (acc ++ Wire.encs r) := by
  intro r
  induction r with
  | nil =>
    intro i k acc hd hi hl hk
    obtain ⟨k, rfl⟩ : ∃ k', k = k' + 1 := ⟨k - 1, by omega⟩
    have h0 := List.drop_eq_nil_iff.1 hd
    simp only [towlineref01_Put.l0]
    rw [if_neg (by omega)]
    simp [Wire.encs]
  | cons x r ih =>
    intro i k acc hd hi hl hk
    obtain ⟨hx, hlt, hmem, hd2⟩ := rd_drop hd
    obtain ⟨hx0, hx1⟩ := hs x hmem
    obtain ⟨b, rfl⟩ := Int.eq_ofNat_of_zero_le hx0
    rw [List.length_cons] at hk hl
    obtain ⟨k, rfl⟩ : ∃ k', k = k' + 1 := ⟨k - 1, by omega⟩
    simp only [towlineref01_Put.l0]
    rw [if_pos (by omega), if_pos (by omega), if_pos (by omega), hx]
    obtain ⟨k', h1, h2, h3⟩ := rput_l1 s (s.length : Int) (i : Int) 9 0 k b acc rfl (by omega) (by omega) (by omega) (by omega)
    refine h3.trans ?_
    clear h3
    rw [show wrap64 ((i : Int) + 1) = ((i + 1 : Nat) : Int) by unfold wrap64; omega]
    have hl2 := enc_len 9 b
    rw [ih (i + 1) k' _ hd2 (by omega) (by rw [List.length_append]; omega) (by omega)]
    unfold Wire.encs
    rw [List.flatMap_cons, List.append_assoc, Int.toNat_natCast]
theorem rput (l s : List Int) (hs : ∀ x ∈ s, 0 ≤ x ∧ x < 18446744073709551616) (hl : l.length + 10 * s.length + 20 < 140737488355328) (k : Nat) (hk : 12 * s.length < k) : towlineref01_Put.f k l s = some (l ++ Wire.encs s) := by
  unfold towlineref01_Put.f
  rw [Option.bind_some, if_pos (by simp only [List.length_nil]; omega), List.nil_append]
  exact rput_l0 s hs (by omega) s 0 k l rfl (Nat.zero_le _) hl hk
theorem bseq (l : List Int) : bytes_Equal.f l l = some true := by unfold bytes_Equal.f; simp
theorem clone_t (l : List Int) (h : l.length < 140737488355328) : slices_Clone_byte_byte.f l = some l := by unfold slices_Clone_byte_byte.f; rw [if_pos h]
set_option maxHeartbeats 8000000 in
set_option maxRecDepth 100000 in
theorem numbers (A0 : Option Addr) (c0 : Nat) (l0 : List Int) (A1 : Option Addr) (c1 : Nat) (l1 : List Int) (w : World) (hr0 : Kd.C (Kd.int .u8) w A0 l0.length l0) (hc0 : l0.length ≤ c0) (hr1 : Kd.C (Kd.int .u64) w A1 l1.length l1) (hc1 : l1.length ≤ c1) (hu : ∀ x ∈ l1, 0 ≤ x ∧ x < 18446744073709551616) :
    Calls Try.prog 10 #[.slice A0 l0.length c0, .slice A1 l1.length c1] w fun e w' => e = .returned (.bool true) ∧ Below w.heap.size w w' := by
  have HR0 := Aside0.mk hr0
  have HC0 := Aside0.mk hc0
  have HR1 := Aside0.mk hr1
  have HC1 := Aside0.mk hc1
  have HU := Aside0.mk hu
  have HAW := Aside0.mk (awake_le 100 (Nat.le_refl _))
  clear hr0 hc0 hr1 hc1 hu
  have short : (16384 < (l0.length : Int) ∨ 500 < (l1.length : Int)) ∨ (l0.length ≤ 16384 ∧ l1.length ≤ 500) := by omega
  rcases short with h | ⟨h0, h1⟩
  · have hb : (decide (16384 < (l0.length : Int)) = true) ∨ (decide (16384 < (l0.length : Int)) = false ∧ decide (500 < (l1.length : Int)) = true) := by
      by_cases c : 16384 < (l0.length : Int)
      · exact .inl (decide_eq_true c)
      · exact .inr ⟨decide_eq_false c, decide_eq_true (by omega)⟩
    clear h
    rcases hb with hb | ⟨hb, hb2⟩
    all_goals
      go_enter Try.func10, Try.ntmps10
      go_wp2_with (fail)
      refine (towlinelaw01_awake.calls 100 true _ HAW.out).mono ?_
      rintro e w1 ⟨rfl, hB⟩
      have HB := Aside0.mk hB
      clear hB
      go_wp2
      go_ret
      exact ⟨rfl, HB.out⟩
  · have d0 : decide (16384 < (l0.length : Int)) = false := decide_eq_false (by omega)
    have d1 : decide (500 < (l1.length : Int)) = false := decide_eq_false (by omega)
    have HCL := Aside0.mk (clone_t l0 (by omega))
    have HPL := Aside0.mk (show l0.length + 10 * l1.length < 140737488355328 by omega)
    have HRP := Aside0.mk (rput l0 l1 HU.out (by omega) 10000 (by omega))
    obtain ⟨X, hX⟩ : ∃ X, l0 ++ Wire.encs l1 = X := ⟨_, rfl⟩
    rw [hX] at HRP
    have HX := Aside0.mk hX
    have HEQ := Aside0.mk (bseq X)
    clear hX
    have HEQ0 := Aside0.mk (bseq l0)
    clear h0 h1
    go_enter Try.func10, Try.ntmps10
    go_wp2_with (fail)
    refine (slices_Clone_byte_byte.calls _ _ l0 l0 _ HR0.out HC0.out HCL.out).mono ?_
    rintro e w1 ⟨v1, rfl, hR, hB⟩
    obtain ⟨A2, c2, rfl⟩ := Kd.R_slice hR
    have HR := Aside0.mk hR
    have HB := Aside0.mk hB
    clear hR hB
    go_wp2_with (fail)
    refine (Put_any A2 c2 l0 A1 c1 l1 _ (Kd.R_reads' HR.out).2.2 (Kd.R_reads' HR.out).2.1 (Kd.C_below HR1.out HB.out) HC1.out (C_some (Kd.R_reads' HR.out).2.2) HU.out HPL.out).mono ?_
    rintro e w2 ⟨v2, rfl, hO, hB⟩
    rw [HX.out] at hO
    have HR2 := Aside0.mk (Kd.R_below HR.out hB)
    have HB2 := Aside0.mk (below_step HB.out hB)
    obtain ⟨A3, c3, rfl⟩ := hO.slice
    have HO := Aside0.mk (ono_reads hO)
    clear hO hB HR HB
    go_wp2_with (fail)
    refine (towlineref01_Put.calls 10000 _ _ l0 _ _ l1 _ _ (Kd.C_below HR0.out HB2.out) HC0.out (Kd.C_below HR1.out HB2.out) HC1.out HRP.out).mono ?_
    rintro e w3 ⟨v3, rfl, hR3, hB⟩
    obtain ⟨A4, c4, rfl⟩ := Kd.R_slice hR3
    have HR3 := Aside0.mk hR3
    have HB3 := Aside0.mk (below_step HB2.out hB)
    have HO3 := Aside0.mk (Kd.C_below HO.out.1 hB)
    have HR23 := Aside0.mk (Kd.R_below HR2.out hB)
    clear hR3 hB HB2 HR2
    go_wp2_with (fail)
    refine (bytes_Equal.calls _ _ X _ _ X true _ HO3.out HO.out.2 (Kd.R_reads' HR3.out).2.2 (Kd.R_reads' HR3.out).2.1 HEQ.out).mono ?_
    rintro e w4 ⟨rfl, ⟨nd, rfl⟩⟩
    go_wp2_with (fail)
    refine (bytes_Equal.calls _ _ l0 _ _ l0 true _ (Kd.C_drewN (Kd.R_reads' HR23.out).2.2 nd) (Kd.R_reads' HR23.out).2.1 (Kd.C_drewN (Kd.C_below HR0.out HB3.out) nd) HC0.out HEQ0.out).mono ?_
    rintro e w4 ⟨rfl, ⟨nd2, rfl⟩⟩
    go_wp2_with (fail)
    refine (towlinelaw01_awake.calls 100 true _ HAW.out).mono ?_
    rintro e w5 ⟨rfl, hB⟩
    have HB5 := Aside0.mk (below_step (pw_below_drewN HB3.out (nd + nd2)) hB)
    clear hB
    go_wp2
    go_ret
    exact ⟨rfl, HB5.out⟩
theorem WireNumbers (a0 : Option Addr) (len0 cap0 : Nat) (z0 : List Int) (a1 : Option Addr) (len1 cap1 : Nat) (z1 : List Int) (w : World) (w0 : (a0 = none ∧ len0 = 0 ∧ cap0 = 0 ∧ z0 = []) ∨ ∃ x, a0 = some x ∧ len0 ≤ cap0 ∧ cap0 ≤ maxLen ∧ z0.length = cap0 ∧ (∀ i, i < z0.length → w.cell? (x.add i) = some (.int .u8 (z0.getD i 0))) ∧ ∀ n ∈ z0, (Lit.int .u8 n).wf = true) (y0 : len0 * 1 ≤ 140737488351232) (w1 : (a1 = none ∧ len1 = 0 ∧ cap1 = 0 ∧ z1 = []) ∨ ∃ x, a1 = some x ∧ len1 ≤ cap1 ∧ cap1 ≤ maxLen ∧ z1.length = cap1 ∧ (∀ i, i < z1.length → w.cell? (x.add i) = some (.int .u64 (z1.getD i 0))) ∧ ∀ n ∈ z1, (Lit.int .u64 n).wf = true) (y1 : len1 * 8 ≤ 140737488351232) :
    Calls Try.prog 10 #[.slice a0 len0 cap0, .slice a1 len1 cap1] w fun e w' => e = .returned (.bool true) ∧ Below w.heap.size w w' := by
  obtain ⟨l0, rfl, hr0, hm0, hw0, hc0⟩ := ReadsInt.ofRowC w0
  obtain ⟨l1, rfl, hr1, hm1, hw1, hc1⟩ := ReadsInt.ofRowC w1
  exact numbers _ _ l0 _ _ l1 w (Kd.C_of_reads (d := (0 : Int)) (h1 := fun _ => rfl) hr0) hc0 (Kd.C_of_reads (d := (0 : Int)) (h1 := fun _ => rfl) hr1) hc1 (fun x hx => wf_u64 (hw1 x hx))

end Go.Proofs.Ytleaiojilmkhaaa.Wk
