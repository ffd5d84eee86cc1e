/- Plain laws of records: a record is opened as it was sealed, one that is cut or changed is not. -/
import Derived.Test.YtleaiojilmkhaaaPlainW
namespace Go.Proofs.Ytleaiojilmkhaaa.Wire
open Go Go.RowKit Go.Proofs.YtleaiojilmkhaaaW.PrintWords Go.Proofs.YtleaiojilmkhaaaW.PrintLast Go.Proofs.YtleaiojilmkhaaaW.PrintMore
set_option linter.unusedVariables false
theorem enc_short {n : Nat} (h : n < 16384) : (enc 9 n).length ≤ 2 := by
  by_cases c : n < 128
  · rw [enc_small _ c]; simp
  · rw [enc_big 8 c, enc_small _ (by omega)]; simp
theorem bytes_rec (l r : List Int) (hl : l.length ≤ 8192) : bytesP (recP l ++ r) 0 8192 = (l, (recP l).length, 0) := by
  unfold bytesP recP
  rw [List.drop_zero, List.append_assoc, num_enc _ _ (by omega)]
  simp only [ne_eq, not_true_eq_false, if_false]
  rw [if_neg (by rw [if_neg (by omega)]; omega), if_neg (by simp only [List.length_append]; omega)]
  refine Prod.ext ?_ (Prod.ext ?_ rfl)
  · show (List.drop (0 + (enc 9 l.length).length) (enc 9 l.length ++ (l ++ r))).take l.length = l
    rw [Nat.zero_add, List.drop_left, List.take_left]
  · show 0 + (enc 9 l.length).length + l.length = (enc 9 l.length ++ l).length
    rw [List.length_append]; omega
theorem rec_len (l : List Int) (hl : l.length ≤ 8192) : (recP l).length ≤ 8194 := by
  have := enc_short (show l.length < 16384 by omega)
  unfold recP; rw [List.length_append]; omega
theorem take_rec (l r : List Int) (hl : l.length ≤ 8192) : (recP l ++ r).take 8208 = recP l ++ r.take (8208 - (recP l).length) := by
  have := rec_len l hl
  rw [List.take_append, List.take_of_length_le (by omega)]
theorem open_seal (l r : List Int) (hl : l.length ≤ 8192) : openP (sealP l ++ r) = (l, (sealP l).length, 0) := by
  unfold openP
  have e : sealP l ++ r = recP l ++ (fourP (sumP (recP l)) ++ r) := by unfold sealP; rw [List.append_assoc]
  rw [e, take_rec l _ hl, bytes_rec l _ hl]
  simp only [ne_eq, not_true_eq_false, if_false]
  have h4 := four_len (sumP (recP l))
  rw [if_neg (by simp only [List.length_append]; omega), if_pos (by rw [List.take_left, List.drop_left, List.take_append_of_le_length (by omega), List.take_of_length_le (by omega)])]
  refine Prod.ext rfl (Prod.ext ?_ rfl)
  show (recP l).length + 4 = (sealP l).length
  unfold sealP; rw [List.length_append, h4]
theorem open_cut (l : List Int) (hl : l.length ≤ 8192) (m : Nat) (hm : m < (sealP l).length) : openP ((sealP l).take m) = ([], 0, 2) := by
  have hs := seal_len l
  have hr := rec_len l hl
  have h4 := four_len (sumP (recP l))
  have hrl : (recP l).length = (enc 9 l.length).length + l.length := by unfold recP; rw [List.length_append]
  unfold openP
  rw [List.take_of_length_le (show ((sealP l).take m).length ≤ 8208 by rw [List.length_take]; omega)]
  rcases Nat.lt_or_ge m (enc 9 l.length).length with h | h
  · have e : (sealP l).take m = (enc 9 l.length).take m := by
      unfold sealP recP; rw [List.append_assoc, List.take_append_of_le_length (by omega)]
    have hb : bytesP ((sealP l).take m) 0 8192 = ([], 0, 2) := by
      unfold bytesP
      rw [List.drop_zero, e, num_cut _ m (by omega) h]
      rfl
    rw [hb]; rfl
  · rcases Nat.lt_or_ge m (recP l).length with h2 | h2
    · have e : (sealP l).take m = enc 9 l.length ++ l.take (m - (enc 9 l.length).length) := by
        unfold sealP; rw [List.take_append_of_le_length (by omega)]
        unfold recP; rw [List.take_append, List.take_of_length_le h]
      have hb : bytesP ((sealP l).take m) 0 8192 = ([], 0, 2) := by
        unfold bytesP
        rw [List.drop_zero, e, num_enc _ _ (by omega)]
        simp only [ne_eq, not_true_eq_false, if_false]
        rw [if_neg (by rw [if_neg (by omega)]; omega), if_pos (by simp only [List.length_append, List.length_take]; omega)]
      rw [hb]; rfl
    · have e : (sealP l).take m = recP l ++ (fourP (sumP (recP l))).take (m - (recP l).length) := by
        unfold sealP; rw [List.take_append, List.take_of_length_le h2]
      rw [e, bytes_rec l _ hl]
      simp only [ne_eq, not_true_eq_false, if_false]
      rw [if_pos (by simp only [List.length_append, List.length_take]; omega)]
/-! ### one byte that is another one -/
theorem xor_r {a b x : Nat} (h : a ^^^ x = b ^^^ x) : a = b := by
  have h1 := congrArg (fun z => z ^^^ x) h
  simp only [Nat.xor_assoc, Nat.xor_self, Nat.xor_zero] at h1
  exact h1
theorem xor_l {a b x : Nat} (h : x ^^^ a = x ^^^ b) : a = b := xor_r (by rw [Nat.xor_comm a x, Nat.xor_comm b x]; exact h)
theorem bit31 {c : Nat} (h : c < 2147483648) : c.testBit 31 = false := Nat.testBit_lt_two_pow h
theorem bitS_inj {a b : Nat} (ha : a < 4294967296) (hb : b < 4294967296) (h : bitS a = bitS b) : a = b := by
  have h31 : (2197175160 : Nat).testBit 31 = true := by decide
  have t : ∀ c, c < 4294967296 → (bitS c).testBit 31 = decide (c % 2 = 1) := by
    intro c hc
    unfold bitS
    by_cases d : c % 2 = 1
    · rw [if_pos d, Nat.testBit_xor, h31, bit31 (by omega), decide_eq_true d]; rfl
    · rw [if_neg d, bit31 (by omega), decide_eq_false d]
  have h2 : decide (a % 2 = 1) = decide (b % 2 = 1) := by rw [← t a ha, ← t b hb, h]
  unfold bitS at h
  by_cases d : a % 2 = 1
  · have d2 : b % 2 = 1 := by rw [decide_eq_true d] at h2; exact of_decide_eq_true h2.symm
    rw [if_pos d, if_pos d2] at h
    have h3 : a / 2 = b / 2 := xor_r h
    omega
  · have d2 : ¬ b % 2 = 1 := by rw [decide_eq_false d] at h2; exact of_decide_eq_false h2.symm
    rw [if_neg d, if_neg d2] at h
    omega
theorem bitsS_inj : ∀ (n : Nat) {a b : Nat}, a < 4294967296 → b < 4294967296 → bitsS n a = bitsS n b → a = b := by
  intro n
  induction n with
  | zero => intro a b _ _ h; exact h
  | succ n ih => intro a b ha hb h; exact bitS_inj ha hb (ih (bitS_lt ha) (bitS_lt hb) h)
theorem crc_inj : ∀ (l : List Int) {a b : Nat}, Bs l → a < 4294967296 → b < 4294967296 → crc l a = crc l b → a = b := by
  intro l
  induction l with
  | nil => intro a b _ _ _ h; exact h
  | cons x r ih =>
    intro a b hl ha hb h
    have hx := hl x (List.mem_cons_self ..)
    have h1 := ih (fun y hy => hl y (List.mem_cons_of_mem _ hy)) (bitsS_lt 8 _ (xor_lt ha (by omega))) (bitsS_lt 8 _ (xor_lt hb (by omega))) h
    exact xor_r (bitsS_inj 8 (xor_lt ha (by omega)) (xor_lt hb (by omega)) h1)
theorem crc_set : ∀ (l : List Int) (j c : Nat) (y : Int), Bs l → 0 ≤ y ∧ y < 256 → c < 4294967296 → j < l.length → y ≠ rd l (j : Int) → crc (l.set j y) c ≠ crc l c := by
  intro l
  induction l with
  | nil => intro j c y _ _ _ hj; simp at hj
  | cons x r ih =>
    intro j c y hl hy hc hj hne h
    have hx := hl x (List.mem_cons_self ..)
    have hr : Bs r := fun z hz => hl z (List.mem_cons_of_mem _ hz)
    cases j with
    | zero =>
      have h1 := crc_inj r hr (bitsS_lt 8 _ (xor_lt hc (show y.toNat < 4294967296 by omega))) (bitsS_lt 8 _ (xor_lt hc (show x.toNat < 4294967296 by omega))) h
      have h2 := xor_l (bitsS_inj 8 (xor_lt hc (show y.toNat < 4294967296 by omega)) (xor_lt hc (show x.toNat < 4294967296 by omega)) h1)
      apply hne
      rw [rd_nat (by simp)]
      simp only [List.getElem_cons_zero]; omega
    | succ j =>
      refine ih j _ y hr hy (bitsS_lt 8 _ (xor_lt hc (show x.toNat < 4294967296 by omega))) (by simpa using hj) ?_ h
      intro e
      apply hne
      rw [rd_nat (by simpa using hj)] at e
      rw [rd_nat hj]
      simpa using e
theorem sum_set (l : List Int) (j : Nat) (y : Int) (hl : Bs l) (hy : 0 ≤ y ∧ y < 256) (hj : j < l.length) (hne : y ≠ rd l (j : Int)) : sumP (l.set j y) ≠ sumP l := by
  intro h
  unfold sumP at h
  exact crc_set l j 4294967295 y hl hy (by decide) hj hne (xor_l (Int.ofNat.inj h))
theorem open_all {s d : List Int} {n : Nat} (h : openP s = (d, n, 0)) : fourP (sumP (s.take (n - 4))) = (s.drop (n - 4)).take 4 ∧ 4 ≤ n := by
  unfold openP at h
  generalize bytesP (s.take 8208) 0 8192 = q at h
  by_cases c0 : q.2.2 ≠ 0
  · rw [if_pos c0] at h
    exact absurd (congrArg (fun z => z.2.2) h) c0
  · rw [if_neg c0] at h
    by_cases c1 : s.length < q.2.1 + 4
    · rw [if_pos c1] at h
      exact absurd (show (2 : Int) = 0 from congrArg (fun z => z.2.2) h) (by decide)
    · rw [if_neg c1] at h
      by_cases c2 : fourP (sumP (s.take q.2.1)) = (s.drop q.2.1).take 4
      · rw [if_pos c2] at h
        have h1 : q.2.1 + 4 = n := congrArg (fun z => z.2.1) h
        rw [show n - 4 = q.2.1 by omega]
        exact ⟨c2, by omega⟩
      · rw [if_neg c2] at h
        exact absurd (show (11 : Int) = 0 from congrArg (fun z => z.2.2) h) (by decide)
theorem open_set (l : List Int) (hl : Bs l) (hn : l.length ≤ 8192) (j : Nat) (y : Int) (hy : 0 ≤ y ∧ y < 256) (hj : j < (sealP l).length) (hne : y ≠ rd (sealP l) (j : Int)) (d : List Int) : openP ((sealP l).set j y) ≠ (d, (sealP l).length, 0) := by
  intro h
  have h0 := open_seal l [] hn
  rw [List.append_nil] at h0
  have hb := seal_bs hl (by omega)
  generalize sealP l = s at *
  obtain ⟨a1, _⟩ := open_all h
  obtain ⟨a2, h4⟩ := open_all h0
  rw [List.take_of_length_le (l := (s.set j y).drop (s.length - 4)) (by rw [List.length_drop, List.length_set]; omega)] at a1
  rw [List.take_of_length_le (l := s.drop (s.length - 4)) (by rw [List.length_drop]; omega)] at a2
  rcases Nat.lt_or_ge j (s.length - 4) with hlt | hge
  · rw [List.drop_set_of_lt hlt, ← a2, List.take_set] at a1
    have ht : Bs (s.take (s.length - 4)) := hb.take _
    have hts : Bs ((s.take (s.length - 4)).set j y) := fun x hx => (List.mem_or_eq_of_mem_set hx).elim (ht x) (fun e => e ▸ hy)
    refine sum_set _ j y ht hy (by rw [List.length_take]; omega) ?_ (four_inj (sumP_range _ hts) (sumP_range _ ht) a1)
    intro e
    apply hne
    rw [rd_nat (by rw [List.length_take]; omega), List.getElem_take] at e
    rw [rd_nat hj]; exact e
  · rw [List.take_set, List.set_eq_of_length_le (by rw [List.length_take]; omega), a2] at a1
    have e : s.set j y = s := by
      rw [← List.take_append_drop (s.length - 4) (s.set j y), ← a1, List.take_set, List.set_eq_of_length_le (by rw [List.length_take]; omega), List.take_append_drop]
    apply hne
    rw [rd_nat hj]
    have h5 : (s.set j y)[j]'(by rw [List.length_set]; exact hj) = y := List.getElem_set_self _
    rw [← h5]
    congr 1
end Go.Proofs.Ytleaiojilmkhaaa.Wire
