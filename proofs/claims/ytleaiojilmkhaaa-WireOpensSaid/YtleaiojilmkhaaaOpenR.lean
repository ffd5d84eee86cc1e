/- Contracts of the reference's Seal, Open and All. -/
import Derived.Test.YtleaiojilmkhaaaPWireOpensx
import Derived.Test.YtleaiojilmkhaaaRefBytes
import Derived.Test.YtleaiojilmkhaaaAllC
import Derived.IntWalk
namespace Go.Proofs.Ytleaiojilmkhaaa.WkR
open Go Go.RowKit Go.Proofs.YtleaiojilmkhaaaW.PrintWords Go.Proofs.YtleaiojilmkhaaaW.PrintLast Go.Proofs.YtleaiojilmkhaaaW.PrintMore Go.Proofs.Ytleaiojilmkhaaa.Wire
open Go.Proofs.Ytleaiojilmkhaaa.WBase (IsS71 IsS71.new cellS71_0 cellS71_1 cellS71_2)
open Go.Proofs.Ytleaiojilmkhaaa.PWireOpens (towlineref01_Seal.f towlineref01_Seal.calls towlineref01_Sum.f towlineref01_Sum.l0 towlineref01_Sum.l1 towlineref01_Put.f towlineref01_Put.l0 towlineref01_Put.l1 towlineref01_Bytes.f)
open Go.Proofs.Ytleaiojilmkhaaa.Wk (KdB KdBB allP allGo AS AS.below AP AP.step AP.stop info22)
set_option linter.unusedVariables false
set_option linter.unusedSimpArgs false
theorem bit_r1 (c : Nat) (h : c < 4294967296) (h2 : Int.tmod (c : Int) 2 = 1) : Go.bits .xor .u32 ((Int.tdiv (c : Int) 2) % 4294967296) 2197175160 = (bitS c : Int) := by
  rw [Int.tmod_eq_emod_of_nonneg (by omega)] at h2
  rw [Int.tdiv_eq_ediv_of_nonneg (by omega), show (c : Int) / 2 % 4294967296 = ((c / 2 : Nat) : Int) by omega, show (2197175160 : Int) = ((2197175160 : Nat) : Int) from rfl, u32_xor_nat _ _ (by omega) (by decide)]
  unfold bitS
  rw [if_pos (by omega)]
theorem bit_r0 (c : Nat) (h : c < 4294967296) (h2 : ¬ Int.tmod (c : Int) 2 = 1) : (Int.tdiv (c : Int) 2) % 4294967296 = (bitS c : Int) := by
  rw [Int.tmod_eq_emod_of_nonneg (by omega)] at h2
  rw [Int.tdiv_eq_ediv_of_nonneg (by omega)]
  unfold bitS
  rw [if_neg (by omega)]; omega
theorem rsum_l1 (s : List Int) (x8 x9 : Int) : ∀ (n j k : Nat) (c : Nat), c < 4294967296 → j + n = 8 → n < k → towlineref01_Sum.l1 k (c : Int) s x8 x9 (j : Int) = towlineref01_Sum.l0 (k - n - 1) ((bitsS n c : Nat) : Int) s x8 (wrap64 (x9 + 1)) := by
  intro n
  induction n with
  | zero =>
    intro j k c hc hj hk
    obtain ⟨k, rfl⟩ : ∃ k', k = k' + 1 := ⟨k - 1, by omega⟩
    simp only [towlineref01_Sum.l1]
    rw [if_neg (by omega)]
    rfl
  | succ n ih =>
    intro j k c hc hj hk
    obtain ⟨k, rfl⟩ : ∃ k', k = k' + 1 := ⟨k - 1, by omega⟩
    have e := ih (j + 1) k (bitS c) (bitS_lt hc) (by omega) (by omega)
    rw [show k - n - 1 = k + 1 - (n + 1) - 1 by omega] at e
    simp only [towlineref01_Sum.l1]
    rw [if_pos (by omega), show wrap64 ((j : Int) + 1) = ((j + 1 : Nat) : Int) by unfold wrap64; omega]
    by_cases h2 : Int.tmod (c : Int) 2 = 1
    · rw [if_pos h2, bit_r1 c hc h2]; exact e
    · rw [if_neg h2, bit_r0 c hc h2]; exact e
theorem rsum_l0 (s : List Int) (hs : Bs s) (hlen : s.length < 140737488355328) : ∀ (r : List Int) (i k c : Nat), s.drop i = r → c < 4294967296 → i ≤ s.length → 10 * r.length < k → towlineref01_Sum.l0 k (c : Int) s (s.length : Int) (i : Int) = some ((4294967295 ^^^ crc r c : Nat) : Int) := by
  intro r
  induction r with
  | nil =>
    intro i k c hd hc hi hk
    obtain ⟨k, rfl⟩ : ∃ k', k = k' + 1 := ⟨k - 1, by omega⟩
    have h0 := List.drop_eq_nil_iff.1 hd
    simp only [towlineref01_Sum.l0]
    rw [if_neg (by omega)]
    have h1 := xor_ones32 c hc
    refine congrArg some ?_
    rw [show crc ([] : List Int) c = c from rfl, h1]; omega
  | cons x r ih =>
    intro i k c hd hc hi hk
    obtain ⟨hx, hlt, hmem, hd2⟩ := rd_drop hd
    obtain ⟨hx0, hx1⟩ := hs x hmem
    obtain ⟨b, rfl⟩ := Int.eq_ofNat_of_zero_le hx0
    rw [List.length_cons] at hk
    obtain ⟨k, rfl⟩ : ∃ k', k = k' + 1 := ⟨k - 1, by omega⟩
    simp only [towlineref01_Sum.l0]
    rw [if_pos (by omega), if_pos (by omega), if_pos (by omega), hx, show (b : Int) % 4294967296 = (b : Int) by omega, u32_xor_nat _ _ hc (by omega)]
    have h1 := rsum_l1 s (s.length : Int) (i : Int) 8 0 k (c ^^^ b) (xor_lt hc (by omega)) rfl (by omega)
    refine h1.trans ?_
    clear h1
    rw [show wrap64 ((i : Int) + 1) = ((i + 1 : Nat) : Int) by unfold wrap64; omega]
    exact ih (i + 1) _ _ hd2 (bitsS_lt 8 _ (xor_lt hc (by omega))) (by omega) (by omega)
theorem rsum (s : List Int) (hs : Bs s) (hlen : s.length < 140737488355328) (k : Nat) (hk : 10 * s.length < k) : towlineref01_Sum.f k s = some (sumP s) := rsum_l0 s hs hlen s 0 k 4294967295 rfl (by decide) (Nat.zero_le _) hk
theorem rput_l1 (s : List Int) (x12 x13 : Int) : ∀ (f j k n : Nat) (acc : List Int), j + f = 9 → n < 128 ^ (f + 1) → n < 18446744073709551616 → acc.length + (11 - j) < 140737488355328 → f + 1 < k → ∃ k', k ≤ k' + f + 1 ∧ k' < k ∧ towlineref01_Put.l1 k acc (n : Int) s x12 x13 (j : Int) = towlineref01_Put.l0 k' (acc ++ enc f n) s x12 (wrap64 (x13 + 1)) := by
  intro f
  induction f with
  | zero =>
    intro j k n acc hj hn hn2 hl hk
    obtain ⟨k, rfl⟩ : ∃ k', k = k' + 1 := ⟨k - 1, by omega⟩
    refine ⟨k, by omega, by omega, ?_⟩
    simp only [towlineref01_Put.l1]
    rw [if_pos (by omega), if_pos (by omega), if_pos (by omega), show (n : Int) % 256 = (n : Int) by omega]
    rfl
  | succ f ih =>
    intro j k n acc hj hn hn2 hl hk
    obtain ⟨k, rfl⟩ : ∃ k', k = k' + 1 := ⟨k - 1, by omega⟩
    by_cases h : n < 128
    · refine ⟨k, by omega, by omega, ?_⟩
      simp only [towlineref01_Put.l1]
      rw [if_pos (by omega), if_pos (by omega), if_pos (by omega), show (n : Int) % 256 = (n : Int) by omega]
      unfold enc
      rw [if_pos h]
    · have hd : n / 128 < 128 ^ (f + 1) := by
        rw [Nat.pow_succ] at hn
        exact (Nat.div_lt_iff_lt_mul (by decide)).2 hn
      obtain ⟨k', h1, h2, h3⟩ := ih (j + 1) k (n / 128) (acc ++ [128 + (n : Int) % 128]) (by omega) hd (by omega) (by simp only [List.length_append, List.length_singleton]; omega) (by omega)
      refine ⟨k', by omega, by omega, ?_⟩
      simp only [towlineref01_Put.l1]
      rw [if_pos (by omega), if_neg (by omega), if_pos (by omega), Int.tmod_eq_emod_of_nonneg (by omega), Int.tdiv_eq_ediv_of_nonneg (by omega), show IntKind.u64.wrap (128 + (n : Int) % 128) % 256 = 128 + (n : Int) % 128 by rw [u64w]; omega, show IntKind.u64.wrap ((n : Int) / 128) = ((n / 128 : Nat) : Int) by rw [u64w]; omega, show wrap64 ((j : Int) + 1) = ((j + 1 : Nat) : Int) by unfold wrap64; omega, h3]
      rw [List.append_assoc]
      have e : enc (f + 1) n = (128 + (n : Int) % 128) :: enc f (n / 128) := by
        show (if n < 128 then _ else _) = _
        rw [if_neg h]
      rw [e]; rfl
theorem rput_l0 (s : List Int) (hs : ∀ x ∈ s, 0 ≤ x ∧ x < 18446744073709551616) (hlen : s.length < 140737488355328) : ∀ (r : List Int) (i k : Nat) (acc : List Int), s.drop i = r → i ≤ s.length → acc.length + 10 * r.length + 20 < 140737488355328 → 12 * r.length < k → towlineref01_Put.l0 k acc s (s.length : Int) (i : Int) = some (acc ++ Wire.encs r) := by
  intro r
  induction r with
  | nil =>
    intro i k acc hd hi hl hk
    obtain ⟨k, rfl⟩ : ∃ k', k = k' + 1 := ⟨k - 1, by omega⟩
    have h0 := List.drop_eq_nil_iff.1 hd
    simp only [towlineref01_Put.l0]
    rw [if_neg (by omega)]
    simp [Wire.encs]
  | cons x r ih =>
    intro i k acc hd hi hl hk
    obtain ⟨hx, hlt, hmem, hd2⟩ := rd_drop hd
    obtain ⟨hx0, hx1⟩ := hs x hmem
    obtain ⟨b, rfl⟩ := Int.eq_ofNat_of_zero_le hx0
    rw [List.length_cons] at hk hl
    obtain ⟨k, rfl⟩ : ∃ k', k = k' + 1 := ⟨k - 1, by omega⟩
    simp only [towlineref01_Put.l0]
    rw [if_pos (by omega), if_pos (by omega), if_pos (by omega), hx]
    obtain ⟨k', h1, h2, h3⟩ := rput_l1 s (s.length : Int) (i : Int) 9 0 k b acc rfl (by omega) (by omega) (by omega) (by omega)
    refine h3.trans ?_
    clear h3
    rw [show wrap64 ((i : Int) + 1) = ((i + 1 : Nat) : Int) by unfold wrap64; omega]
    have hl2 := enc_len 9 b
    rw [ih (i + 1) k' _ hd2 (by omega) (by rw [List.length_append]; omega) (by omega)]
    unfold Wire.encs
    rw [List.flatMap_cons, List.append_assoc, Int.toNat_natCast]
theorem rput (l s : List Int) (hs : ∀ x ∈ s, 0 ≤ x ∧ x < 18446744073709551616) (hl : l.length + 10 * s.length + 20 < 140737488355328) (k : Nat) (hk : 12 * s.length < k) : towlineref01_Put.f k l s = some (l ++ Wire.encs s) := by
  unfold towlineref01_Put.f
  rw [Option.bind_some, if_pos (by simp only [List.length_nil]; omega), List.nil_append]
  exact rput_l0 s hs (by omega) s 0 k l rfl (Nat.zero_le _) hl hk
theorem rseal (l : List Int) (hb : Bs l) (h : l.length ≤ 8192) (k : Nat) (hk : 90000 < k) : towlineref01_Seal.f k l = some (sealP l, 0) := by
  have hw : IntKind.u64.wrap (l.length : Int) = (l.length : Int) := by rw [u64w]; omega
  have hes : Wire.encs [(l.length : Int)] = enc 9 l.length := by simp [Wire.encs]
  have hen := enc_len 9 l.length
  have hr := rec_len l h
  have hp : towlineref01_Bytes.f k [] l = some (recP l) := by
    unfold towlineref01_Bytes.f recP
    rw [hw, rput [] [(l.length : Int)] (by simp; omega) (by simp only [List.length_singleton, List.length_nil]; omega) _ (by simp only [List.length_singleton]; omega), Option.bind_some, hes, List.nil_append, if_pos (by omega)]
  unfold towlineref01_Seal.f
  rw [if_neg (by omega), hp, Option.bind_some, rsum _ (rec_bs hb (by omega)) (by omega) _ (by omega), Option.bind_some, Option.bind_some, four_ref (sumP_range _ (rec_bs hb (by omega))), if_pos (by rw [four_len]; omega)]
  rfl

/-! ### plain: what the reference reads of all is what is read of a beginning -/
theorem numGo_take : ∀ (r : List Int) (i n m : Nat), i ≤ 10 → 11 ≤ i + m → numGo i n (r.take m) = numGo i n r := by
  intro r
  induction r with
  | nil => intro i n m _ _; rw [List.take_nil]
  | cons x r ih =>
    intro i n m hi hm
    obtain ⟨m, rfl⟩ : ∃ m', m = m' + 1 := ⟨m - 1, by omega⟩
    rw [List.take_succ_cons]
    by_cases c : i = 10 ∨ (i = 9 ∧ 1 < x.toNat % 128)
    · rw [num_long c, num_long c]
    · by_cases d : x = 0 ∧ 0 < i
      · rw [num_form c d, num_form c d]
      · by_cases e : x < 128
        · rw [num_last c d e, num_last c d e]
        · rw [num_more c d e, num_more c d e]
          exact ih _ _ _ (by omega) (by omega)
theorem num_ten_le (r : List Int) (i n : Nat) (hi : i ≤ 10) (h : (numGo i n r).2.2 = 0) : (numGo i n r).2.1 ≤ 10 := by
  induction r generalizing i n with
  | nil => simp [numGo] at h
  | cons x r ih =>
    by_cases c : i = 10 ∨ (i = 9 ∧ 1 < x.toNat % 128)
    · rw [num_long c] at h; exact absurd h (by decide)
    · by_cases d : x = 0 ∧ 0 < i
      · rw [num_form c d] at h; exact absurd h (by decide)
      · by_cases e : x < 128
        · rw [num_last c d e]; show i + 1 ≤ 10; omega
        · rw [num_more c d e] at h ⊢
          exact ih _ _ (by omega) h
theorem bytes_take (l : List Int) : bytesP (l.take 8208) 0 8192 = bytesP l 0 8192 := by
  rcases Nat.lt_or_ge 8208 l.length with hl | hl
  · unfold bytesP
    rw [List.drop_zero, List.drop_zero]
    have hn : num (l.take 8208) = num l := numGo_take l 0 0 8208 (by decide) (by decide)
    have h10 := num_ten_le l 0 0 (by decide)
    rw [hn]
    rw [show numGo 0 0 l = num l from rfl] at h10
    generalize num l = q at *
    by_cases c0 : q.2.2 ≠ 0
    · rw [if_pos c0, if_pos c0]
    · rw [if_neg c0, if_neg c0]
      have h1 := h10 (Decidable.not_not.1 c0)
      by_cases c1 : (if (8192 : Int) < 0 then (0 : Int) else 8192) < (q.1 : Int)
      · rw [if_pos c1, if_pos c1]
      · rw [if_neg c1, if_neg c1]
        rw [if_neg (by decide)] at c1
        rw [if_neg (by rw [List.length_take]; omega), if_neg (by omega)]
        refine Prod.ext ?_ rfl
        show ((l.take 8208).drop (0 + q.2.1)).take q.1 = (l.drop (0 + q.2.1)).take q.1
        rw [List.drop_take, List.take_take, Nat.min_eq_left (by omega)]
  · rw [List.take_of_length_le hl]
theorem open_cases {l : List Int} (hb : Bs l) : ((bytesP l 0 8192).2.2 ≠ 0 ∧ openP l = ([], 0, (bytesP l 0 8192).2.2)) ∨ ((bytesP l 0 8192).2.2 = 0 ∧ l.length < (bytesP l 0 8192).2.1 + 4 ∧ openP l = ([], 0, 2)) ∨
    ((bytesP l 0 8192).2.2 = 0 ∧ (bytesP l 0 8192).2.1 + 4 ≤ l.length ∧ sealP (bytesP l 0 8192).1 ≠ l.take ((bytesP l 0 8192).2.1 + 4) ∧ openP l = ([], 0, 11)) ∨
    ((bytesP l 0 8192).2.2 = 0 ∧ (bytesP l 0 8192).2.1 + 4 ≤ l.length ∧ sealP (bytesP l 0 8192).1 = l.take ((bytesP l 0 8192).2.1 + 4) ∧ openP l = ((bytesP l 0 8192).1, (bytesP l 0 8192).2.1 + 4, 0)) := by
  have h : openP l = if (bytesP l 0 8192).2.2 ≠ 0 then ([], 0, (bytesP l 0 8192).2.2) else if l.length < (bytesP l 0 8192).2.1 + 4 then ([], 0, 2) else if fourP (sumP (l.take (bytesP l 0 8192).2.1)) = (l.drop (bytesP l 0 8192).2.1).take 4 then ((bytesP l 0 8192).1, (bytesP l 0 8192).2.1 + 4, 0) else ([], 0, 11) := by
    unfold openP
    rw [bytes_take]
  by_cases c0 : (bytesP l 0 8192).2.2 ≠ 0
  · rw [if_pos c0] at h; exact .inl ⟨c0, h⟩
  · rw [if_neg c0] at h
    have c0' := Decidable.not_not.1 c0
    by_cases c1 : l.length < (bytesP l 0 8192).2.1 + 4
    · rw [if_pos c1] at h; exact .inr (.inl ⟨c0', c1, h⟩)
    · rw [if_neg c1] at h
      obtain ⟨_, h2, h3⟩ := bytes_canon (s := l) (d := (bytesP l 0 8192).1) (a := (bytesP l 0 8192).2.1) hb (by rw [← c0'])
      by_cases c2 : fourP (sumP (l.take (bytesP l 0 8192).2.1)) = (l.drop (bytesP l 0 8192).2.1).take 4
      · rw [if_pos c2] at h
        refine .inr (.inr (.inr ⟨c0', by omega, ?_, h⟩))
        unfold sealP
        rw [h3, c2, List.take_add]
      · rw [if_neg c2] at h
        refine .inr (.inr (.inl ⟨c0', by omega, ?_, h⟩))
        intro e
        unfold sealP at e
        rw [h3, List.take_add] at e
        exact c2 (List.append_cancel_left e)
theorem rSeal_any (A0 : Option Addr) (c0 : Nat) (l0 : List Int) (w : World) (hr0 : Kd.C (Kd.int .u8) w A0 l0.length l0) (hc0 : l0.length ≤ c0) (hb : Bs l0) (hl : l0.length ≤ 8192) :
    Calls Try.prog 23 #[.slice A0 l0.length c0] w fun e w' => ∃ v0_ : Value, e = .returned (.tuple #[v0_, .int .i64 0]) ∧ Kd.R (Kd.int .u8) 5 w' w.heap.size (fun _ => True) v0_ (sealP l0) ∧ Below w.heap.size w w' :=
  towlineref01_Seal.calls 90001 A0 c0 l0 (sealP l0) 0 w hr0 hc0 (rseal l0 hb hl 90001 (by decide))
theorem ba_loop (s : ByteArray) : ∀ (d i : Nat) (r : List UInt8), s.size - i = d → ByteArray.toList.loop s i r = r.reverse ++ s.data.toList.drop i := by
  intro d
  induction d with
  | zero =>
    intro i r h
    unfold ByteArray.toList.loop
    rw [if_neg (by omega), List.drop_eq_nil_of_le (by rw [Array.length_toList]; show s.size ≤ i; omega), List.append_nil]
  | succ d ih =>
    intro i r h
    unfold ByteArray.toList.loop
    have hi : i < s.size := by omega
    rw [if_pos hi, ih (i + 1) _ (by omega), List.reverse_cons, List.append_assoc]
    congr 1
    have hl : i < s.data.toList.length := by rw [Array.length_toList]; exact hi
    rw [List.drop_eq_getElem_cons hl]
    have : s.get! i = s.data.toList[i] := by
      have hi2 : i < s.data.size := hi
      simp [ByteArray.get!]; exact getElem!_pos s.data i hi2
    rw [this]; rfl
theorem ba_toList (s : ByteArray) : s.toList = s.data.toList := by
  unfold ByteArray.toList
  rw [ba_loop s s.size 0 [] (by omega)]; simp
theorem str_eq {X Y : List Int} (hx : Bs X) (hy : Bs Y) (h : (strOfNums X).toList = (strOfNums Y).toList) : X = Y := by
  have e : ∀ Z : List Int, (strOfNums Z).toList = Z.map fun n => UInt8.ofNat n.toNat := by
    intro Z
    rw [ba_toList]
    simp [strOfNums]
  rw [e, e] at h
  have key : ∀ (X Y : List Int), Bs X → Bs Y → X.map (fun n => UInt8.ofNat n.toNat) = Y.map (fun n => UInt8.ofNat n.toNat) → X = Y := by
    intro X
    induction X with
    | nil => intro Y _ _ h; cases Y with
      | nil => rfl
      | cons => simp at h
    | cons x X ih =>
      intro Y hx hy h
      cases Y with
      | nil => simp at h
      | cons y Y =>
        rw [List.map_cons, List.map_cons] at h
        injection h with h1 h2
        have hx0 := hx x (List.mem_cons_self ..)
        have hy0 := hy y (List.mem_cons_self ..)
        have h3 := congrArg UInt8.toNat h1
        rw [UInt8.toNat_ofNat', UInt8.toNat_ofNat'] at h3
        rw [ih Y (fun z hz => hx z (List.mem_cons_of_mem _ hz)) (fun z hz => hy z (List.mem_cons_of_mem _ hz)) h2]
        congr 1
        omega
  exact key X Y hx hy h

theorem str_ne {X Y : List Int} (hx : Bs X) (hy : Bs Y) (h : X ≠ Y) : ((strOfNums X).toList != (strOfNums Y).toList) = true := by
  rw [bne_iff_ne]
  exact fun e => h (str_eq hx hy e)
theorem bytesP_bs {s : List Int} {p : Nat} {m : Int} (hs : Bs s) : Bs (bytesP s p m).1 := by
  unfold bytesP
  generalize (if m < 0 then (0 : Int) else m) = M
  by_cases c0 : (num (s.drop p)).2.2 ≠ 0
  · rw [if_pos c0]; intro x hx; cases hx
  · rw [if_neg c0]
    by_cases c1 : M < ((num (s.drop p)).1 : Int)
    · rw [if_pos c1]; intro x hx; cases hx
    · rw [if_neg c1]
      by_cases c2 : s.length < p + (num (s.drop p)).2.1 + (num (s.drop p)).1
      · rw [if_pos c2]; intro x hx; cases hx
      · rw [if_neg c2]; exact (hs.drop _).take _
set_option maxHeartbeats 8000000 in
set_option maxRecDepth 100000 in
theorem rOpen_calls (A0 : Option Addr) (c0 : Nat) (l : List Int) (w : World) (hr0 : Kd.C (Kd.int .u8) w A0 l.length l) (hc0 : l.length ≤ c0) (hs : Bs l) (hlen : l.length < 1000000000) :
    Calls Try.prog 42 #[.slice A0 l.length c0] w fun e w' => ∃ v, e = .returned (.tuple #[v, .int .i64 ((openP l).2.1 : Int), .int .i64 (openP l).2.2]) ∧ Kd.R (Kd.int .u8) 5 w' w.heap.size (fun _ => True) v (openP l).1 ∧ Below w.heap.size w w' := by
  have HR0 := Aside0.mk hr0
  have HC0 := Aside0.mk hc0
  have HS := Aside0.mk hs
  have HL := Aside0.mk hlen
  have HLL := Aside0.mk (show l.length < 140737488355328 by omega)
  have HOC := Aside0.mk (open_cases hs)
  have HBC := Aside0.mk (fun h => bytes_canon (s := l) (d := (bytesP l 0 8192).1) (a := (bytesP l 0 8192).2.1) hs h)
  have H0 := Aside0.mk (IsS71.new w w A0 c0 l 0 0 (Below.refl _ _) ⟨hr0, hc0⟩)
  have HBA := Aside0.mk (rBytes_calls w.heap.size l 0 8192 (by decide) w _ H0.out (below_alloc (Below.refl _ _) _) hs (by omega) (Nat.zero_le _))
  have hbs : Bs (bytesP l 0 8192).1 := bytesP_bs hs
  have HBS := Aside0.mk hbs
  clear hr0 hc0 hs hlen H0 hbs
  generalize bytesP l 0 8192 = q at *
  obtain ⟨d, a, er⟩ := q
  simp only at HOC HBA HBC HBS
  rcases HOC.out with ⟨h1, h2⟩ | ⟨h1, h2, h3⟩ | ⟨h1, h2, h3, h4⟩ | ⟨h1, h2, h3, h4⟩
  · have HO := Aside0.mk h2
    have hne : (er != (0 : Int)) = true := bne_iff_ne.mpr h1
    have hne2 : (er == (0 : Int)) = false := by simpa using h1
    clear h1 h2 HOC HBC
    rw [HO.out]
    go_enter Try.func42, Try.ntmps42
    go_wp2_with (fail)
    refine (HBA.out).mono ?_
    rintro e w1 ⟨v, rfl, hR, hI, hB, hK⟩
    have HI := Aside0.mk hI
    have HB := Aside0.mk hB
    clear hR hI hB hK
    obtain ⟨AS, cS, HG, hg, HSs⟩ := HI.out; have hc_0 := cellS71_0 HG; have hc_1 := cellS71_1 HG; have hc_2 := cellS71_2 HG; clear hg HG HSs
    go_wp2
    repeat (go_quiet (fail); try go_wp2)
    go_ret3
    exact ⟨_, rfl, Kd.R_nil _ _ _ _ _, by first | exact HB.out | exact pw_below_drewN HB.out _⟩
  all_goals
    subst h1
    obtain ⟨b1, b2, b3⟩ := HBC.out rfl
    have HD8 := Aside0.mk b1
    have HAL := Aside0.mk b2
    clear HBC b1 b2 b3
  · have HO := Aside0.mk h3
    have hw : wrap64 ((l.length : Int) - (a : Int)) = (l.length : Int) - (a : Int) := by have := HL.out; have := HAL.out; unfold wrap64; omega
    have hd : decide ((l.length : Int) - (a : Int) < 4) = true := decide_eq_true (by omega)
    clear h2 h3 HOC
    rw [HO.out]
    go_enter Try.func42, Try.ntmps42
    go_wp2_with (fail)
    refine (HBA.out).mono ?_
    rintro e w1 ⟨v, rfl, hR, hI, hB, hK⟩
    have HI := Aside0.mk hI
    have HB := Aside0.mk hB
    clear hR hI hB hK
    obtain ⟨AS, cS, HG, hg, HSs⟩ := HI.out; have hc_0 := cellS71_0 HG; have hc_1 := cellS71_1 HG; have hc_2 := cellS71_2 HG; clear hg HG HSs
    go_wp2
    repeat (go_quiet (fail); try go_wp2)
    go_ret3
    exact ⟨_, rfl, Kd.R_nil _ _ _ _ _, by first | exact HB.out | exact pw_below_drewN HB.out _⟩
  all_goals
    have HO := Aside0.mk h4
    obtain ⟨z, hz⟩ : ∃ z, a + 4 = z := ⟨_, rfl⟩
    rw [hz] at h2 h3
    try rw [hz] at HO
    have HNE := Aside0.mk h3
    have HZ := Aside0.mk hz
    have hw : wrap64 ((l.length : Int) - (a : Int)) = (l.length : Int) - (a : Int) := by have := HL.out; have := HAL.out; unfold wrap64; omega
    have hw2 : wrap64 ((a : Int) + 4) = (z : Int) := by have := HL.out; have := HAL.out; have := HZ.out; clear hw; unfold wrap64; omega
    have hw3 : IntKind.i64.wrap ((a : Int) + 4) = (z : Int) := by have := HL.out; have := HAL.out; have := HZ.out; clear hw hw2; exact (IntWalk.i64_in _ (by omega)).trans (by omega)
    have hd : decide ((l.length : Int) - (a : Int) < 4) = false := decide_eq_false (by clear hw hw2 hw3; omega)
    have HA4 := Aside0.mk h2
    obtain ⟨i0, hi0, _, hz1, _⟩ := info_parts Go.Proofs.Ytleaiojilmkhaaa.Wire.info5
    have HCUT := cut_to (P := Try.prog) 22 5 .i64 Try.underlying22 hi0 A0 l.length c0 (z : Int) (by clear hw hw2 hw3 hd; omega) (by have := HA4.out; clear hw hw2 hw3 hd; omega) HC0.out
    rw [Int.toNat_natCast] at HCUT
    clear h2 h3 h4 hz HOC hi0 hz1
    rw [HO.out]
    go_enter Try.func42, Try.ntmps42
    go_wp2_with (fail)
    refine (HBA.out).mono ?_
    rintro e w1 ⟨v, rfl, hR, hI, hB, hK⟩
    have HI := Aside0.mk hI
    have HB := Aside0.mk hB
    have HR1 := Aside0.mk hR
    obtain ⟨A1, c1, rfl⟩ := Kd.R_slice hR
    clear hR hI hB hK
    obtain ⟨AS, cS, HG, hg, HSs⟩ := HI.out; have hc_0 := cellS71_0 HG; have hc_1 := cellS71_1 HG; have hc_2 := cellS71_2 HG; clear hg HG HSs
    go_wp2_with (fail)
    refine (rSeal_any A1 c1 d _ (Kd.R_reads' HR1.out).2.2 (Kd.R_reads' HR1.out).2.1 HBS.out HD8.out).mono ?_
    rintro e w2 ⟨v2, rfl, hR, hB⟩
    obtain ⟨A2, c2, rfl⟩ := Kd.R_slice hR
    have HR2 := Aside0.mk (Kd.R_reads' hR)
    have HR12 := Aside0.mk (Kd.R_mono (Kd.R_lower (Kd.R_below HR1.out hB) (show w.heap.size ≤ _ by simp)) (ok' := fun _ => True) (fun _ _ => trivial))
    have HI2 := Aside0.mk (HI.out.below hB)
    have HB2 := Aside0.mk (below_step HB.out hB)
    clear hc_0 hc_1 hc_2
    clear hR hB HI HB HR1
    obtain ⟨AS, cS, HG, hg, HSs⟩ := HI2.out; have hc_0 := cellS71_0 HG; have hc_1 := cellS71_1 HG; have hc_2 := cellS71_2 HG; clear hg HG HSs
    have hcv1 := fun n => Kd.C_string (P := Try.prog) (A := A2) (c := c2) Try.underlying22 Try.underlying5 Try.underlying9 (Kd.C_drewN HR2.out.2.2 n)
    have HCX := Aside0.mk (Kd.C_take (m := z) (Kd.C_below HR0.out HB2.out) HA4.out)
    have HBX := Aside0.mk (HS.out.take z)
    have HXL := Aside0.mk (show (l.take z).length = z by rw [List.length_take]; exact Nat.min_eq_left HA4.out)
    obtain ⟨X, hX⟩ : ∃ X, l.take z = X := ⟨_, rfl⟩
    rw [hX] at HNE HCX HBX HXL
    have hcv2 := fun n => Kd.C_string (P := Try.prog) (A := A0) (c := c0) Try.underlying22 Try.underlying5 Try.underlying9 (Kd.C_drewN HCX.out n)
    have HSB := Aside0.mk (seal_bs HBS.out (by have := HD8.out; omega))
    rw [HXL.out] at hcv2
    clear hX
  · have HST := Aside0.mk (str_ne HSB.out HBX.out HNE.out)
    have hst : ((strOfNums (sealP d)).toList == (strOfNums X).toList) = false := by simpa using HST.out
    go_wp2
    go_quiet (fail)
    go_wp2
    go_ret3
    exact ⟨_, rfl, Kd.R_nil _ _ _ _ _, pw_below_drewN HB2.out _⟩
  · rw [HNE.out] at hcv1
    rw [HNE.out]
    have hst : ((strOfNums X).toList != (strOfNums X).toList) = false := by simp
    rw [HNE.out] at HR2
    clear HNE
    go_wp2
    go_quiet (fail)
    go_wp2
    go_quiet (fail)
    go_wp2
    go_ret3
    exact ⟨_, rfl, Kd.R_drewN (Kd.R_drewN HR12.out _) _, pw_below_drewN (pw_below_drewN HB2.out _) _⟩
set_option maxHeartbeats 8000000 in
set_option maxRecDepth 100000 in
theorem rAll_calls (A0 : Option Addr) (c0 : Nat) (l0 : List Int) (w : World) (hr0 : Kd.C (Kd.int .u8) w A0 l0.length l0) (hc0 : l0.length ≤ c0) (hs : Bs l0) (hlen : l0.length < 1000000000) :
    Calls Try.prog 44 #[.slice A0 l0.length c0] w fun e w' => ∃ v, e = .returned (.tuple #[v, .int .i64 ((allP l0).2 : Int)]) ∧ Kd.R KdB 22 w' w.heap.size (fun _ => True) v (allP l0).1 ∧ Below w.heap.size w w' := by
  have HR0 := Aside0.mk hr0
  have HC0 := Aside0.mk hc0
  have HS := Aside0.mk hs
  have HL := Aside0.mk hlen
  obtain ⟨i0, hi0, _, hz1, _⟩ := info_parts Go.Proofs.Ytleaiojilmkhaaa.Wire.info5
  have HINF := Aside0.mk (And.intro hi0 hz1)
  clear hi0 hz1 hr0 hc0 hs hlen
  have H0 := Aside0.mk (show AS w l0 (l0.length + 1) 0 [] (.slice none 0 0) w from ⟨Kd.R_nil _ _ _ _ _, Below.refl _ _⟩)
  have P0 := Aside0.mk (show AP l0 (l0.length + 1) 0 [] from ⟨Nat.zero_le _, by omega, by simp [allP], Nat.le_refl _⟩)
  go_enter Try.func44, Try.ntmps44
  go_wp2_with (fail)
  go_loopg [4, 5, 11] (l0.length + 1) (fun f v4 v5 v11 wr => ∃ (n : Nat) (outs : List (List Int)) (A : Option Addr) (c : Nat), v4 = .slice A outs.length c ∧ v5 = .int .i64 (n : Int) ∧ v11 = .int .i64 (outs.length : Int) ∧ outs.length ≤ l0.length ∧ Aside0 (AS w l0 f n outs (.slice A outs.length c) wr) ∧ Aside0 (AP l0 f n outs))
  case atStart => exact ⟨0, [], none, 0, rfl, rfl, rfl, Nat.zero_le _, H0, P0⟩
  case round =>
    obtain ⟨n, outs, A, c, rfl, rfl, rfl, hol, H, P⟩ := hrel
    clear H0 P0
    obtain ⟨f, rfl⟩ : ∃ f, gk = f + 1 := ⟨gk - 1, by have := P.out.2.1; omega⟩
    have HCUT := cut_from (P := Try.prog) 22 5 .i64 Try.underlying22 HINF.out.1 1 HINF.out.2 A0 l0.length c0 (n : Int) (by omega) (by have := P.out.1; omega)
    have HCX := Aside0.mk (Kd.C_drop (c := c0) (Kd.C_below HR0.out H.out.2) P.out.1 HC0.out)
    rw [Int.toNat_natCast] at HCUT
    rw [show n * (Kd.int IntKind.u8).sz = n * 1 from rfl] at HCX
    generalize (if c0 = n then A0 else A0.map (·.add (n * 1))) = AX at HCUT HCX
    have HXL := Aside0.mk (show (l0.drop n).length = l0.length - n from List.length_drop)
    rw [← HXL.out] at HCUT
    have HXC := Aside0.mk (show (l0.drop n).length ≤ c0 - n by have h1 := HC0.out; have h2 := HXL.out; omega)
    have HXS := Aside0.mk (HS.out.drop n)
    have HXB := Aside0.mk (show (l0.drop n).length < 1000000000 by have h1 := HL.out; have h2 := HXL.out; omega)
    obtain ⟨X, hX⟩ : ∃ X, l0.drop n = X := ⟨_, rfl⟩
    have HX := Aside0.mk hX
    rw [hX] at HCUT HCX HXL HXC HXS HXB
    clear hX
    by_cases hlt : outs.length < l0.length
    case neg =>
      have hnl : X = [] := by
        have h1 := P.out.2.2.2; have h2 := P.out.1; have h3 := HXL.out
        exact List.eq_nil_of_length_eq_zero (by omega)
      have PS := Aside0.mk (P.out.stop (by rw [HX.out, hnl]; decide))
      clear hnl HCUT
      go_wp2
      go_ret2
      exact ⟨_, by rw [PS.out]; rfl, by rw [PS.out]; exact H.out.1, H.out.2⟩
    case pos =>
    have hm := HL.out
    by_cases eo : (openP X).2.2 = 0
    · obtain ⟨dd, k, hon⟩ : ∃ dd k, openP X = (dd, k, 0) := ⟨(openP X).1, (openP X).2.1, by rw [← eo]⟩
      have HON := Aside0.mk hon
      have PS := Aside0.mk (P.out.step HS.out (by rw [HX.out]; exact hon))
      clear hon eo
      go_wp2_with (fail)
      refine (rOpen_calls AX (c0 - n) X _ HCX.out HXC.out HXS.out HXB.out).mono ?_
      rw [HON.out]
      rintro e w5 ⟨v5, rfl, hR, hB⟩
      obtain ⟨A5, c5, rfl⟩ := Kd.R_slice hR
      have HM := Aside0.mk (show Kd.M KdB w5 w.heap.size (fun k => wr.heap.size ≤ k) dd [.slice A5 dd.length c5] from ⟨_, rfl, Kd.R_lower (Kd.R_mono (Kd.R_bound hR) (fun k hk => hk.2.1)) H.out.2.size⟩)
      have HF := Aside0.mk (Kd.fresh_ok H.out.1)
      have H1 := Aside0.mk (H.out.below hB)
      have HLN := Aside0.mk (show (outs.length + 1) * 24 ≤ 140737488355328 by have h1 := HL.out; have h2 := P.out.2.2.2; have h3 := P.out.1; omega)
      have HW := Aside0.mk (show wrap64 ((n : Int) + (k : Int)) = ((n + k : Nat) : Int) by
        have h1 := PS.out.2; have h2 := HL.out
        unfold wrap64; omega)
      clear hR hB H HCUT
      go_wp2_with (first | ((with_reducible refine gate_builtin (b := .append) (xs := #[.tmp 23, .tmp 25]) rfl ?_); at_builtin; refine Kd.R_append KdB (w0 := w) w.heap.size rfl (.tmp 23) (.tmp 25) 57 22 (.slice none 0 0) 24 rfl Try.underlying57 info22 rfl (by decide) (by omega) (.slice A outs.length c) outs dd [.slice A5 dd.length c5] (fun _ => True) (fun k => wr.heap.size ≤ k) rfl rfl HM.out (fun k hk => ⟨trivial, HF.out k hk⟩) (fun _ _ => trivial) H1.out.1 H1.out.2 H1.out.2.size HLN.out ?_; intro v1 w7 h1 h2 h3 _; have HR7 := Aside0.mk h1; have HB7 := Aside0.mk h2; clear h1 h2 h3))
      obtain ⟨A7, c7, e7⟩ := Kd.R_slice HR7.out
      subst e7
      rw [HW.out]
      go_roundg f
      case rel => exact ⟨n + k, outs ++ [dd], A7, c7, rfl, rfl, by rw [List.length_append]; go_num, by rw [List.length_append]; exact hlt, ⟨HR7.out, HB7.out⟩, ⟨PS.out.1⟩⟩
      case measure => omega
    · have HE := Aside0.mk eo
      have PS := Aside0.mk (P.out.stop (by rw [HX.out]; exact eo))
      have heo3 : ((openP X).2.2 != (0 : Int)) = true := by simpa using eo
      have heo2 : ((openP X).2.2 == (0 : Int)) = false := by simpa using eo
      clear eo
      go_wp2_with (fail)
      refine (rOpen_calls AX (c0 - n) X _ HCX.out HXC.out HXS.out HXB.out).mono ?_
      rintro e w5 ⟨v5, rfl, hR, hB⟩
      have H1 := Aside0.mk (H.out.below hB)
      clear hR hB H HCUT
      generalize (openP X).2.2 = er at *
      go_wp2_with (fail)
      go_ret2
      exact ⟨_, by rw [PS.out]; rfl, by rw [PS.out]; exact H1.out.1, H1.out.2⟩
end Go.Proofs.Ytleaiojilmkhaaa.WkR
