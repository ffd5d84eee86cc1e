/- Texts that the row of LawTapePlays rests on, part 8 of 15: contracts of the functions, their walks, plain laws. -/
import Derived.Test.YtehjbhnlbjbhfaaBnTapePlays7
import Derived.IntWalk
import Derived.Test.YtehjbhnlbjbhfaaProg
import Derived.Below
import Derived.Deep.Draws
import Derived.Deep.AppendLies
import Derived.Maps.AppendAt
import Derived.OwnWalk
import Derived.Laws.BytesArg
import Derived.Laws.MakeOwn
import Derived.Laws.OwnMore
import Derived.Deep.OwnRows
import Derived.Tactics
import Derived.Lib.ConvBytes
import Derived.Laws.Slices
import Derived.WalkKit
import Derived.KernelRfl
import Derived.RowKit3
import Derived.Deep.LoopGhost
import Derived.Deep.QuietTactic
import Derived.BigQuiet
import Derived.WideLaws
import Derived.Deep.DeepCutAuto
import Derived.Deep.CutBlock
import Derived.Deep.RegionHeld3
import Derived.Laws.Rows
import Derived.Lib.AppendStr
import Derived.ArgAppend
import Derived.Laws.IdiomCopy
import Derived.OrdersHeld
import Derived.Laws.BitsLemmas
import Derived.RowKit
import Derived.Lib.SliceRun
-- OpenR
namespace Go.Proofs.Ytehjbhnlbjbhfaa.WkR
open Go Go.RowKit Go.Proofs.YtehjbhnlbjbhfaaW.PrintWords Go.Proofs.YtehjbhnlbjbhfaaW.PrintLast Go.Proofs.YtehjbhnlbjbhfaaW.PrintMore Go.Proofs.Ytehjbhnlbjbhfaa.Wire
open Go.Proofs.Ytehjbhnlbjbhfaa.WBase (IsS140 IsS140.new cellS71_0 cellS71_1 cellS71_2)
open Go.Proofs.Ytehjbhnlbjbhfaa.PTapePlays (towlineref01_Seal.f towlineref01_Seal.calls towlineref01_Sum.f towlineref01_Sum.l0 towlineref01_Sum.l1 towlineref01_Put.f towlineref01_Put.l0 towlineref01_Put.l1 towlineref01_Bytes.f)
open Go.Proofs.Ytehjbhnlbjbhfaa.Wk (KdB allP allGo AS AS.below AP AP.step AP.stop info32)
set_option linter.unusedVariables false
set_option linter.unusedSimpArgs false
theorem bit_r1 (c : Nat) (h : c < 4294967296) (h2 : Int.tmod (c : Int) 2 = 1) : Go.bits .xor .u32 ((Int.tdiv (c : Int) 2) % 4294967296) 2197175160 = (bitS c : Int) := by
  rw [Int.tmod_eq_emod_of_nonneg (by omega)] at h2
  rw [Int.tdiv_eq_ediv_of_nonneg (by omega), show (c : Int) / 2 % 4294967296 = ((c / 2 : Nat) : Int) by omega, show (2197175160 : Int) = ((2197175160 : Nat) : Int) from rfl, u32_xor_nat _ _ (by omega) (by decide)]
  unfold bitS
  rw [if_pos (by omega)]
theorem bit_r0 (c : Nat) (h : c < 4294967296) (h2 : ¬ Int.tmod (c : Int) 2 = 1) : (Int.tdiv (c : Int) 2) % 4294967296 = (bitS c : Int) := by
  rw [Int.tmod_eq_emod_of_nonneg (by omega)] at h2
  rw [Int.tdiv_eq_ediv_of_nonneg (by omega)]
  unfold bitS
  rw [if_neg (by omega)]; omega
theorem rsum_l1 (s : List Int) (x8 x9 : Int) : ∀ (n j k : Nat) (c : Nat), c < 4294967296 → j + n = 8 → n < k → towlineref01_Sum.l1 k (c : Int) s x8 x9 (j : Int) = towlineref01_Sum.l0 (k - n - 1) ((bitsS n c : Nat) : Int) s x8 (wrap64 (x9 + 1)) := by
  intro n
  induction n with
  | zero =>
    intro j k c hc hj hk
    obtain ⟨k, rfl⟩ : ∃ k', k = k' + 1 := ⟨k - 1, by omega⟩
    simp only [towlineref01_Sum.l1]
    rw [if_neg (by omega)]
    rfl
  | succ n ih =>
    intro j k c hc hj hk
    obtain ⟨k, rfl⟩ : ∃ k', k = k' + 1 := ⟨k - 1, by omega⟩
    have e := ih (j + 1) k (bitS c) (bitS_lt hc) (by omega) (by omega)
    rw [show k - n - 1 = k + 1 - (n + 1) - 1 by omega] at e
    simp only [towlineref01_Sum.l1]
    rw [if_pos (by omega), show wrap64 ((j : Int) + 1) = ((j + 1 : Nat) : Int) by unfold wrap64; omega]
    by_cases h2 : Int.tmod (c : Int) 2 = 1
    · rw [if_pos h2, bit_r1 c hc h2]; exact e
    · rw [if_neg h2, bit_r0 c hc h2]; exact e
theorem rsum_l0 (s : List Int) (hs : Bs s) (hlen : s.length < 140737488355328) : ∀ (r : List Int) (i k c : Nat), s.drop i = r → c < 4294967296 → i ≤ s.length → 10 * r.length < k → towlineref01_Sum.l0 k (c : Int) s (s.length : Int) (i : Int) = some ((4294967295 ^^^ crc r c : Nat) : Int) := by
  intro r
  induction r with
  | nil =>
    intro i k c hd hc hi hk
    obtain ⟨k, rfl⟩ : ∃ k', k = k' + 1 := ⟨k - 1, by omega⟩
    have h0 := List.drop_eq_nil_iff.1 hd
    simp only [towlineref01_Sum.l0]
    rw [if_neg (by omega)]
    have h1 := xor_ones32 c hc
    refine congrArg some ?_
    rw [show crc ([] : List Int) c = c from rfl, h1]; omega
  | cons x r ih =>
    intro i k c hd hc hi hk
    obtain ⟨hx, hlt, hmem, hd2⟩ := rd_drop hd
    obtain ⟨hx0, hx1⟩ := hs x hmem
    obtain ⟨b, rfl⟩ := Int.eq_ofNat_of_zero_le hx0
    rw [List.length_cons] at hk
    obtain ⟨k, rfl⟩ : ∃ k', k = k' + 1 := ⟨k - 1, by omega⟩
    simp only [towlineref01_Sum.l0]
    rw [if_pos (by omega), if_pos (by omega), if_pos (by omega), hx, show (b : Int) % 4294967296 = (b : Int) by omega, u32_xor_nat _ _ hc (by omega)]
    have h1 := rsum_l1 s (s.length : Int) (i : Int) 8 0 k (c ^^^ b) (xor_lt hc (by omega)) rfl (by omega)
    refine h1.trans ?_
    clear h1
    rw [show wrap64 ((i : Int) + 1) = ((i + 1 : Nat) : Int) by unfold wrap64; omega]
    exact ih (i + 1) _ _ hd2 (bitsS_lt 8 _ (xor_lt hc (by omega))) (by omega) (by omega)
theorem rsum (s : List Int) (hs : Bs s) (hlen : s.length < 140737488355328) (k : Nat) (hk : 10 * s.length < k) : towlineref01_Sum.f k s = some (sumP s) := rsum_l0 s hs hlen s 0 k 4294967295 rfl (by decide) (Nat.zero_le _) hk
theorem rput_l1 (s : List Int) (x12 x13 : Int) : ∀ (f j k n : Nat) (acc : List Int), j + f = 9 → n < 128 ^ (f + 1) → n < 18446744073709551616 → acc.length + (11 - j) < 140737488355328 → f + 1 < k → ∃ k', k ≤ k' + f + 1 ∧ k' < k ∧ towlineref01_Put.l1 k acc (n : Int) s x12 x13 (j : Int) = towlineref01_Put.l0 k' (acc ++ enc f n) s x12 (wrap64 (x13 + 1)) := by
  intro f
  induction f with
  | zero =>
    intro j k n acc hj hn hn2 hl hk
    obtain ⟨k, rfl⟩ : ∃ k', k = k' + 1 := ⟨k - 1, by omega⟩
    refine ⟨k, by omega, by omega, ?_⟩
    simp only [towlineref01_Put.l1]
    rw [if_pos (by omega), if_pos (by omega), if_pos (by omega), show (n : Int) % 256 = (n : Int) by omega]
    rfl
  | succ f ih =>
    intro j k n acc hj hn hn2 hl hk
    obtain ⟨k, rfl⟩ : ∃ k', k = k' + 1 := ⟨k - 1, by omega⟩
    by_cases h : n < 128
    · refine ⟨k, by omega, by omega, ?_⟩
      simp only [towlineref01_Put.l1]
      rw [if_pos (by omega), if_pos (by omega), if_pos (by omega), show (n : Int) % 256 = (n : Int) by omega]
      unfold enc
      rw [if_pos h]
    · have hd : n / 128 < 128 ^ (f + 1) := by
        rw [Nat.pow_succ] at hn
        exact (Nat.div_lt_iff_lt_mul (by decide)).2 hn
      obtain ⟨k', h1, h2, h3⟩ := ih (j + 1) k (n / 128) (acc ++ [128 + (n : Int) % 128]) (by omega) hd (by omega) (by simp only [List.length_append, List.length_singleton]; omega) (by omega)
      refine ⟨k', by omega, by omega, ?_⟩
      simp only [towlineref01_Put.l1]
      rw [if_pos (by omega), if_neg (by omega), if_pos (by omega), Int.tmod_eq_emod_of_nonneg (by omega), Int.tdiv_eq_ediv_of_nonneg (by omega), show IntKind.u64.wrap (128 + (n : Int) % 128) % 256 = 128 + (n : Int) % 128 by rw [u64w]; omega, show IntKind.u64.wrap ((n : Int) / 128) = ((n / 128 : Nat) : Int) by rw [u64w]; omega, show wrap64 ((j : Int) + 1) = ((j + 1 : Nat) : Int) by unfold wrap64; omega, h3]
      rw [List.append_assoc]
      have e : enc (f + 1) n = (128 + (n : Int) % 128) :: enc f (n / 128) := by
        show (if n < 128 then _ else _) = _
        rw [if_neg h]
      rw [e]; rfl
theorem rput_l0 (s : List Int) (hs : ∀ x ∈ s, 0 ≤ x ∧ x < 18446744073709551616) (hlen : s.length < 140737488355328) : ∀ (r : List Int) (i k : Nat) (acc : List Int), s.drop i = r → i ≤ s.length → acc.length + 10 * r.length + 20 < 140737488355328 → 12 * r.length < k → towlineref01_Put.l0 k acc s (s.length : Int) (i : Int) = some (acc ++ Wire.encs r) := by
  intro r
  induction r with
  | nil =>
    intro i k acc hd hi hl hk
    obtain ⟨k, rfl⟩ : ∃ k', k = k' + 1 := ⟨k - 1, by omega⟩
    have h0 := List.drop_eq_nil_iff.1 hd
    simp only [towlineref01_Put.l0]
    rw [if_neg (by omega)]
    simp [Wire.encs]
  | cons x r ih =>
    intro i k acc hd hi hl hk
    obtain ⟨hx, hlt, hmem, hd2⟩ := rd_drop hd
    obtain ⟨hx0, hx1⟩ := hs x hmem
    obtain ⟨b, rfl⟩ := Int.eq_ofNat_of_zero_le hx0
    rw [List.length_cons] at hk hl
    obtain ⟨k, rfl⟩ : ∃ k', k = k' + 1 := ⟨k - 1, by omega⟩
    simp only [towlineref01_Put.l0]
    rw [if_pos (by omega), if_pos (by omega), if_pos (by omega), hx]
    obtain ⟨k', h1, h2, h3⟩ := rput_l1 s (s.length : Int) (i : Int) 9 0 k b acc rfl (by omega) (by omega) (by omega) (by omega)
    refine h3.trans ?_
    clear h3
    rw [show wrap64 ((i : Int) + 1) = ((i + 1 : Nat) : Int) by unfold wrap64; omega]
    have hl2 := enc_len 9 b
    rw [ih (i + 1) k' _ hd2 (by omega) (by rw [List.length_append]; omega) (by omega)]
    unfold Wire.encs
    rw [List.flatMap_cons, List.append_assoc, Int.toNat_natCast]
theorem rput (l s : List Int) (hs : ∀ x ∈ s, 0 ≤ x ∧ x < 18446744073709551616) (hl : l.length + 10 * s.length + 20 < 140737488355328) (k : Nat) (hk : 12 * s.length < k) : towlineref01_Put.f k l s = some (l ++ Wire.encs s) := by
  unfold towlineref01_Put.f
  rw [Option.bind_some, if_pos (by simp only [List.length_nil]; omega), List.nil_append]
  exact rput_l0 s hs (by omega) s 0 k l rfl (Nat.zero_le _) hl hk
theorem rseal (l : List Int) (hb : Bs l) (h : l.length ≤ 8192) (k : Nat) (hk : 90000 < k) : towlineref01_Seal.f k l = some (sealP l, 0) := by
  have hw : IntKind.u64.wrap (l.length : Int) = (l.length : Int) := by rw [u64w]; omega
  have hes : Wire.encs [(l.length : Int)] = enc 9 l.length := by simp [Wire.encs]
  have hen := enc_len 9 l.length
  have hr := rec_len l h
  have hp : towlineref01_Bytes.f k [] l = some (recP l) := by
    unfold towlineref01_Bytes.f recP
    rw [hw, rput [] [(l.length : Int)] (by simp; omega) (by simp only [List.length_singleton, List.length_nil]; omega) _ (by simp only [List.length_singleton]; omega), Option.bind_some, hes, List.nil_append, if_pos (by omega)]
  unfold towlineref01_Seal.f
  rw [if_neg (by omega), hp, Option.bind_some, rsum _ (rec_bs hb (by omega)) (by omega) _ (by omega), Option.bind_some, Option.bind_some, four_ref (sumP_range _ (rec_bs hb (by omega))), if_pos (by rw [four_len]; omega)]
  rfl
theorem numGo_take : ∀ (r : List Int) (i n m : Nat), i ≤ 10 → 11 ≤ i + m → numGo i n (r.take m) = numGo i n r := by
  intro r
  induction r with
  | nil => intro i n m _ _; rw [List.take_nil]
  | cons x r ih =>
    intro i n m hi hm
    obtain ⟨m, rfl⟩ : ∃ m', m = m' + 1 := ⟨m - 1, by omega⟩
    rw [List.take_succ_cons]
    by_cases c : i = 10 ∨ (i = 9 ∧ 1 < x.toNat % 128)
    · rw [num_long c, num_long c]
    · by_cases d : x = 0 ∧ 0 < i
      · rw [num_form c d, num_form c d]
      · by_cases e : x < 128
        · rw [num_last c d e, num_last c d e]
        · rw [num_more c d e, num_more c d e]
          exact ih _ _ _ (by omega) (by omega)
theorem num_ten_le (r : List Int) (i n : Nat) (hi : i ≤ 10) (h : (numGo i n r).2.2 = 0) : (numGo i n r).2.1 ≤ 10 := by
  induction r generalizing i n with
  | nil => simp [numGo] at h
  | cons x r ih =>
    by_cases c : i = 10 ∨ (i = 9 ∧ 1 < x.toNat % 128)
    · rw [num_long c] at h; exact absurd h (by decide)
    · by_cases d : x = 0 ∧ 0 < i
      · rw [num_form c d] at h; exact absurd h (by decide)
      · by_cases e : x < 128
        · rw [num_last c d e]; show i + 1 ≤ 10; omega
        · rw [num_more c d e] at h ⊢
          exact ih _ _ (by omega) h
theorem bytes_take (l : List Int) : bytesP (l.take 8208) 0 8192 = bytesP l 0 8192 := by
  rcases Nat.lt_or_ge 8208 l.length with hl | hl
  · unfold bytesP
    rw [List.drop_zero, List.drop_zero]
    have hn : num (l.take 8208) = num l := numGo_take l 0 0 8208 (by decide) (by decide)
    have h10 := num_ten_le l 0 0 (by decide)
    rw [hn]
    rw [show numGo 0 0 l = num l from rfl] at h10
    generalize num l = q at *
    by_cases c0 : q.2.2 ≠ 0
    · rw [if_pos c0, if_pos c0]
    · rw [if_neg c0, if_neg c0]
      have h1 := h10 (Decidable.not_not.1 c0)
      by_cases c1 : (if (8192 : Int) < 0 then (0 : Int) else 8192) < (q.1 : Int)
      · rw [if_pos c1, if_pos c1]
      · rw [if_neg c1, if_neg c1]
        rw [if_neg (by decide)] at c1
        rw [if_neg (by rw [List.length_take]; omega), if_neg (by omega)]
        refine Prod.ext ?_ rfl
        show ((l.take 8208).drop (0 + q.2.1)).take q.1 = (l.drop (0 + q.2.1)).take q.1
        rw [List.drop_take, List.take_take, Nat.min_eq_left (by omega)]
  · rw [List.take_of_length_le hl]
theorem open_cases {l : List Int} (hb : Bs l) : ((bytesP l 0 8192).2.2 ≠ 0 ∧ openP l = ([], 0, (bytesP l 0 8192).2.2)) ∨ ((bytesP l 0 8192).2.2 = 0 ∧ l.length < (bytesP l 0 8192).2.1 + 4 ∧ openP l = ([], 0, 2)) ∨
    ((bytesP l 0 8192).2.2 = 0 ∧ (bytesP l 0 8192).2.1 + 4 ≤ l.length ∧ sealP (bytesP l 0 8192).1 ≠ l.take ((bytesP l 0 8192).2.1 + 4) ∧ openP l = ([], 0, 11)) ∨
    ((bytesP l 0 8192).2.2 = 0 ∧ (bytesP l 0 8192).2.1 + 4 ≤ l.length ∧ sealP (bytesP l 0 8192).1 = l.take ((bytesP l 0 8192).2.1 + 4) ∧ openP l = ((bytesP l 0 8192).1, (bytesP l 0 8192).2.1 + 4, 0)) := by
  have h : openP l = if (bytesP l 0 8192).2.2 ≠ 0 then ([], 0, (bytesP l 0 8192).2.2) else if l.length < (bytesP l 0 8192).2.1 + 4 then ([], 0, 2) else if fourP (sumP (l.take (bytesP l 0 8192).2.1)) = (l.drop (bytesP l 0 8192).2.1).take 4 then ((bytesP l 0 8192).1, (bytesP l 0 8192).2.1 + 4, 0) else ([], 0, 11) := by
    unfold openP
    rw [bytes_take]
  by_cases c0 : (bytesP l 0 8192).2.2 ≠ 0
  · rw [if_pos c0] at h; exact .inl ⟨c0, h⟩
  · rw [if_neg c0] at h
    have c0' := Decidable.not_not.1 c0
    by_cases c1 : l.length < (bytesP l 0 8192).2.1 + 4
    · rw [if_pos c1] at h; exact .inr (.inl ⟨c0', c1, h⟩)
    · rw [if_neg c1] at h
      obtain ⟨_, h2, h3⟩ := bytes_canon (s := l) (d := (bytesP l 0 8192).1) (a := (bytesP l 0 8192).2.1) hb (by rw [← c0'])
      by_cases c2 : fourP (sumP (l.take (bytesP l 0 8192).2.1)) = (l.drop (bytesP l 0 8192).2.1).take 4
      · rw [if_pos c2] at h
        refine .inr (.inr (.inr ⟨c0', by omega, ?_, h⟩))
        unfold sealP
        rw [h3, c2, List.take_add]
      · rw [if_neg c2] at h
        refine .inr (.inr (.inl ⟨c0', by omega, ?_, h⟩))
        intro e
        unfold sealP at e
        rw [h3, List.take_add] at e
        exact c2 (List.append_cancel_left e)
theorem rSeal_any (A0 : Option Addr) (c0 : Nat) (l0 : List Int) (w : World) (hr0 : Kd.C (Kd.int .u8) w A0 l0.length l0) (hc0 : l0.length ≤ c0) (hb : Bs l0) (hl : l0.length ≤ 8192) :
    Calls Try.prog 71 #[.slice A0 l0.length c0] w fun e w' => ∃ v0_ : Value, e = .returned (.tuple #[v0_, .int .i64 0]) ∧ Kd.R (Kd.int .u8) 5 w' w.heap.size (fun _ => True) v0_ (sealP l0) ∧ Below w.heap.size w w' :=
  towlineref01_Seal.calls 90001 A0 c0 l0 (sealP l0) 0 w hr0 hc0 (rseal l0 hb hl 90001 (by decide))
theorem ba_loop (s : ByteArray) : ∀ (d i : Nat) (r : List UInt8), s.size - i = d → ByteArray.toList.loop s i r = r.reverse ++ s.data.toList.drop i := by
  intro d
  induction d with
  | zero =>
    intro i r h
    unfold ByteArray.toList.loop
    rw [if_neg (by omega), List.drop_eq_nil_of_le (by rw [Array.length_toList]; show s.size ≤ i; omega), List.append_nil]
  | succ d ih =>
    intro i r h
    unfold ByteArray.toList.loop
    have hi : i < s.size := by omega
    rw [if_pos hi, ih (i + 1) _ (by omega), List.reverse_cons, List.append_assoc]
    congr 1
    have hl : i < s.data.toList.length := by rw [Array.length_toList]; exact hi
    rw [List.drop_eq_getElem_cons hl]
    have : s.get! i = s.data.toList[i] := by
      have hi2 : i < s.data.size := hi
      simp [ByteArray.get!]; exact getElem!_pos s.data i hi2
    rw [this]; rfl
theorem ba_toList (s : ByteArray) : s.toList = s.data.toList := by
  unfold ByteArray.toList
  rw [ba_loop s s.size 0 [] (by omega)]; simp
theorem str_eq {X Y : List Int} (hx : Bs X) (hy : Bs Y) (h : (strOfNums X).toList = (strOfNums Y).toList) : X = Y := by
  have e : ∀ Z : List Int, (strOfNums Z).toList = Z.map fun n => UInt8.ofNat n.toNat := by
    intro Z
    rw [ba_toList]
    simp [strOfNums]
  rw [e, e] at h
  have key : ∀ (X Y : List Int), Bs X → Bs Y → X.map (fun n => UInt8.ofNat n.toNat) = Y.map (fun n => UInt8.ofNat n.toNat) → X = Y := by
    intro X
    induction X with
    | nil => intro Y _ _ h; cases Y with
      | nil => rfl
      | cons => simp at h
    | cons x X ih =>
      intro Y hx hy h
      cases Y with
      | nil => simp at h
      | cons y Y =>
        rw [List.map_cons, List.map_cons] at h
        injection h with h1 h2
        have hx0 := hx x (List.mem_cons_self ..)
        have hy0 := hy y (List.mem_cons_self ..)
        have h3 := congrArg UInt8.toNat h1
        rw [UInt8.toNat_ofNat', UInt8.toNat_ofNat'] at h3
        rw [ih Y (fun z hz => hx z (List.mem_cons_of_mem _ hz)) (fun z hz => hy z (List.mem_cons_of_mem _ hz)) h2]
        congr 1
        omega
  exact key X Y hx hy h
theorem str_ne {X Y : List Int} (hx : Bs X) (hy : Bs Y) (h : X ≠ Y) : ((strOfNums X).toList != (strOfNums Y).toList) = true := by
  rw [bne_iff_ne]
  exact fun e => h (str_eq hx hy e)
theorem bytesP_bs {s : List Int} {p : Nat} {m : Int} (hs : Bs s) : Bs (bytesP s p m).1 := by
  unfold bytesP
  generalize (if m < 0 then (0 : Int) else m) = M
  by_cases c0 : (num (s.drop p)).2.2 ≠ 0
  · rw [if_pos c0]; intro x hx; cases hx
  · rw [if_neg c0]
    by_cases c1 : M < ((num (s.drop p)).1 : Int)
    · rw [if_pos c1]; intro x hx; cases hx
    · rw [if_neg c1]
      by_cases c2 : s.length < p + (num (s.drop p)).2.1 + (num (s.drop p)).1
      · rw [if_pos c2]; intro x hx; cases hx
      · rw [if_neg c2]; exact (hs.drop _).take _
set_option maxHeartbeats 8000000 in
set_option maxRecDepth 100000 in
theorem rOpen_calls (A0 : Option Addr) (c0 : Nat) (l : List Int) (w : World) (hr0 : Kd.C (Kd.int .u8) w A0 l.length l) (hc0 : l.length ≤ c0) (hs : Bs l) (hlen : l.length < 1000000000) :
    Calls Try.prog 97 #[.slice A0 l.length c0] w fun e w' => ∃ v, e = .returned (.tuple #[v, .int .i64 ((openP l).2.1 : Int), .int .i64 (openP l).2.2]) ∧ Kd.R (Kd.int .u8) 5 w' w.heap.size (fun _ => True) v (openP l).1 ∧ Below w.heap.size w w' := by
  have HR0 := Aside0.mk hr0
  have HC0 := Aside0.mk hc0
  have HS := Aside0.mk hs
  have HL := Aside0.mk hlen
  have HLL := Aside0.mk (show l.length < 140737488355328 by omega)
  have HOC := Aside0.mk (open_cases hs)
  have HBC := Aside0.mk (fun h => bytes_canon (s := l) (d := (bytesP l 0 8192).1) (a := (bytesP l 0 8192).2.1) hs h)
  have H0 := Aside0.mk (IsS140.new w w A0 c0 l 0 0 (Below.refl _ _) ⟨hr0, hc0⟩)
  have HBA := Aside0.mk (rBytes_calls w.heap.size l 0 8192 (by decide) w _ H0.out (below_alloc (Below.refl _ _) _) hs (by omega) (Nat.zero_le _))
  have hbs : Bs (bytesP l 0 8192).1 := bytesP_bs hs
  have HBS := Aside0.mk hbs
  clear hr0 hc0 hs hlen H0 hbs
  generalize bytesP l 0 8192 = q at *
  obtain ⟨d, a, er⟩ := q
  simp only at HOC HBA HBC HBS
  rcases HOC.out with ⟨h1, h2⟩ | ⟨h1, h2, h3⟩ | ⟨h1, h2, h3, h4⟩ | ⟨h1, h2, h3, h4⟩
  · have HO := Aside0.mk h2
    have hne : (er != (0 : Int)) = true := bne_iff_ne.mpr h1
    have hne2 : (er == (0 : Int)) = false := by simpa using h1
    clear h1 h2 HOC HBC
    rw [HO.out]
    go_enter Try.func97, Try.ntmps97
    go_wp2_with (fail)
    refine (HBA.out).mono ?_
    rintro e w1 ⟨v, rfl, hR, hI, hB, hK⟩
    have HI := Aside0.mk hI
    have HB := Aside0.mk hB
    clear hR hI hB hK
    obtain ⟨AS, cS, HG, hg, HSs⟩ := HI.out; have hc_0 := cellS71_0 HG; have hc_1 := cellS71_1 HG; have hc_2 := cellS71_2 HG; clear hg HG HSs
    go_wp2
    repeat (go_quiet (fail); try go_wp2)
    go_ret3
    exact ⟨_, rfl, Kd.R_nil _ _ _ _ _, by first | exact HB.out | exact pw_below_drewN HB.out _⟩
  all_goals
    subst h1
    obtain ⟨b1, b2, b3⟩ := HBC.out rfl
    have HD8 := Aside0.mk b1
    have HAL := Aside0.mk b2
    clear HBC b1 b2 b3
  · have HO := Aside0.mk h3
    have hw : wrap64 ((l.length : Int) - (a : Int)) = (l.length : Int) - (a : Int) := by have := HL.out; have := HAL.out; unfold wrap64; omega
    have hd : decide ((l.length : Int) - (a : Int) < 4) = true := decide_eq_true (by omega)
    clear h2 h3 HOC
    rw [HO.out]
    go_enter Try.func97, Try.ntmps97
    go_wp2_with (fail)
    refine (HBA.out).mono ?_
    rintro e w1 ⟨v, rfl, hR, hI, hB, hK⟩
    have HI := Aside0.mk hI
    have HB := Aside0.mk hB
    clear hR hI hB hK
    obtain ⟨AS, cS, HG, hg, HSs⟩ := HI.out; have hc_0 := cellS71_0 HG; have hc_1 := cellS71_1 HG; have hc_2 := cellS71_2 HG; clear hg HG HSs
    go_wp2
    repeat (go_quiet (fail); try go_wp2)
    go_ret3
    exact ⟨_, rfl, Kd.R_nil _ _ _ _ _, by first | exact HB.out | exact pw_below_drewN HB.out _⟩
  all_goals
    have HO := Aside0.mk h4
    obtain ⟨z, hz⟩ : ∃ z, a + 4 = z := ⟨_, rfl⟩
    rw [hz] at h2 h3
    try rw [hz] at HO
    have HNE := Aside0.mk h3
    have HZ := Aside0.mk hz
    have hw : wrap64 ((l.length : Int) - (a : Int)) = (l.length : Int) - (a : Int) := by have := HL.out; have := HAL.out; unfold wrap64; omega
    have hw2 : wrap64 ((a : Int) + 4) = (z : Int) := by have := HL.out; have := HAL.out; have := HZ.out; clear hw; unfold wrap64; omega
    have hw3 : IntKind.i64.wrap ((a : Int) + 4) = (z : Int) := by have := HL.out; have := HAL.out; have := HZ.out; clear hw hw2; exact (IntWalk.i64_in _ (by omega)).trans (by omega)
    have hd : decide ((l.length : Int) - (a : Int) < 4) = false := decide_eq_false (by clear hw hw2 hw3; omega)
    have HA4 := Aside0.mk h2
    obtain ⟨i0, hi0, _, hz1, _⟩ := info_parts Go.Proofs.Ytehjbhnlbjbhfaa.Wire.info5
    have HCUT := cut_to (P := Try.prog) 32 5 .i64 Try.underlying32 hi0 A0 l.length c0 (z : Int) (by clear hw hw2 hw3 hd; omega) (by have := HA4.out; clear hw hw2 hw3 hd; omega) HC0.out
    rw [Int.toNat_natCast] at HCUT
    clear h2 h3 h4 hz HOC hi0 hz1
    rw [HO.out]
    go_enter Try.func97, Try.ntmps97
    go_wp2_with (fail)
    refine (HBA.out).mono ?_
    rintro e w1 ⟨v, rfl, hR, hI, hB, hK⟩
    have HI := Aside0.mk hI
    have HB := Aside0.mk hB
    have HR1 := Aside0.mk hR
    obtain ⟨A1, c1, rfl⟩ := Kd.R_slice hR
    clear hR hI hB hK
    obtain ⟨AS, cS, HG, hg, HSs⟩ := HI.out; have hc_0 := cellS71_0 HG; have hc_1 := cellS71_1 HG; have hc_2 := cellS71_2 HG; clear hg HG HSs
    go_wp2_with (fail)
    refine (rSeal_any A1 c1 d _ (Kd.R_reads' HR1.out).2.2 (Kd.R_reads' HR1.out).2.1 HBS.out HD8.out).mono ?_
    rintro e w2 ⟨v2, rfl, hR, hB⟩
    obtain ⟨A2, c2, rfl⟩ := Kd.R_slice hR
    have HR2 := Aside0.mk (Kd.R_reads' hR)
    have HR12 := Aside0.mk (Kd.R_mono (Kd.R_lower (Kd.R_below HR1.out hB) (show w.heap.size ≤ _ by simp)) (ok' := fun _ => True) (fun _ _ => trivial))
    have HI2 := Aside0.mk (HI.out.below hB)
    have HB2 := Aside0.mk (below_step HB.out hB)
    clear hc_0 hc_1 hc_2
    clear hR hB HI HB HR1
    obtain ⟨AS, cS, HG, hg, HSs⟩ := HI2.out; have hc_0 := cellS71_0 HG; have hc_1 := cellS71_1 HG; have hc_2 := cellS71_2 HG; clear hg HG HSs
    have hcv1 := fun n => Kd.C_string (P := Try.prog) (A := A2) (c := c2) Try.underlying32 Try.underlying5 Try.underlying9 (Kd.C_drewN HR2.out.2.2 n)
    have HCX := Aside0.mk (Kd.C_take (m := z) (Kd.C_below HR0.out HB2.out) HA4.out)
    have HBX := Aside0.mk (HS.out.take z)
    have HXL := Aside0.mk (show (l.take z).length = z by rw [List.length_take]; exact Nat.min_eq_left HA4.out)
    obtain ⟨X, hX⟩ : ∃ X, l.take z = X := ⟨_, rfl⟩
    rw [hX] at HNE HCX HBX HXL
    have hcv2 := fun n => Kd.C_string (P := Try.prog) (A := A0) (c := c0) Try.underlying32 Try.underlying5 Try.underlying9 (Kd.C_drewN HCX.out n)
    have HSB := Aside0.mk (seal_bs HBS.out (by have := HD8.out; omega))
    rw [HXL.out] at hcv2
    clear hX
  · have HST := Aside0.mk (str_ne HSB.out HBX.out HNE.out)
    have hst : ((strOfNums (sealP d)).toList == (strOfNums X).toList) = false := by simpa using HST.out
    go_wp2
    go_quiet (fail)
    go_wp2
    go_ret3
    exact ⟨_, rfl, Kd.R_nil _ _ _ _ _, pw_below_drewN HB2.out _⟩
  · rw [HNE.out] at hcv1
    rw [HNE.out]
    have hst : ((strOfNums X).toList != (strOfNums X).toList) = false := by simp
    rw [HNE.out] at HR2
    clear HNE
    go_wp2
    go_quiet (fail)
    go_wp2
    go_quiet (fail)
    go_wp2
    go_ret3
    exact ⟨_, rfl, Kd.R_drewN (Kd.R_drewN HR12.out _) _, pw_below_drewN (pw_below_drewN HB2.out _) _⟩
set_option maxHeartbeats 8000000 in
set_option maxRecDepth 100000 in
theorem rAll_calls (A0 : Option Addr) (c0 : Nat) (l0 : List Int) (w : World) (hr0 : Kd.C (Kd.int .u8) w A0 l0.length l0) (hc0 : l0.length ≤ c0) (hs : Bs l0) (hlen : l0.length < 1000000000) :
    Calls Try.prog 84 #[.slice A0 l0.length c0] w fun e w' => ∃ v, e = .returned (.tuple #[v, .int .i64 ((allP l0).2 : Int)]) ∧ Kd.R KdB 32 w' w.heap.size (fun _ => True) v (allP l0).1 ∧ Below w.heap.size w w' := by
  have HR0 := Aside0.mk hr0
  have HC0 := Aside0.mk hc0
  have HS := Aside0.mk hs
  have HL := Aside0.mk hlen
  obtain ⟨i0, hi0, _, hz1, _⟩ := info_parts Go.Proofs.Ytehjbhnlbjbhfaa.Wire.info5
  have HINF := Aside0.mk (And.intro hi0 hz1)
  clear hi0 hz1 hr0 hc0 hs hlen
  have H0 := Aside0.mk (show AS w l0 (l0.length + 1) 0 [] (.slice none 0 0) w from ⟨Kd.R_nil _ _ _ _ _, Below.refl _ _⟩)
  have P0 := Aside0.mk (show AP l0 (l0.length + 1) 0 [] from ⟨Nat.zero_le _, by omega, by simp [allP], Nat.le_refl _⟩)
  go_enter Try.func84, Try.ntmps84
  go_wp2_with (fail)
  go_loopg [4, 5, 11] (l0.length + 1) (fun f v4 v5 v11 wr => ∃ (n : Nat) (outs : List (List Int)) (A : Option Addr) (c : Nat), v4 = .slice A outs.length c ∧ v5 = .int .i64 (n : Int) ∧ v11 = .int .i64 (outs.length : Int) ∧ outs.length ≤ l0.length ∧ Aside0 (AS w l0 f n outs (.slice A outs.length c) wr) ∧ Aside0 (AP l0 f n outs))
  case atStart => exact ⟨0, [], none, 0, rfl, rfl, rfl, Nat.zero_le _, H0, P0⟩
  case round =>
    obtain ⟨n, outs, A, c, rfl, rfl, rfl, hol, H, P⟩ := hrel
    clear H0 P0
    obtain ⟨f, rfl⟩ : ∃ f, gk = f + 1 := ⟨gk - 1, by have := P.out.2.1; omega⟩
    have HCUT := cut_from (P := Try.prog) 32 5 .i64 Try.underlying32 HINF.out.1 1 HINF.out.2 A0 l0.length c0 (n : Int) (by omega) (by have := P.out.1; omega)
    have HCX := Aside0.mk (Kd.C_drop (c := c0) (Kd.C_below HR0.out H.out.2) P.out.1 HC0.out)
    rw [Int.toNat_natCast] at HCUT
    rw [show n * (Kd.int IntKind.u8).sz = n * 1 from rfl] at HCX
    generalize (if c0 = n then A0 else A0.map (·.add (n * 1))) = AX at HCUT HCX
    have HXL := Aside0.mk (show (l0.drop n).length = l0.length - n from List.length_drop)
    rw [← HXL.out] at HCUT
    have HXC := Aside0.mk (show (l0.drop n).length ≤ c0 - n by have h1 := HC0.out; have h2 := HXL.out; omega)
    have HXS := Aside0.mk (HS.out.drop n)
    have HXB := Aside0.mk (show (l0.drop n).length < 1000000000 by have h1 := HL.out; have h2 := HXL.out; omega)
    obtain ⟨X, hX⟩ : ∃ X, l0.drop n = X := ⟨_, rfl⟩
    have HX := Aside0.mk hX
    rw [hX] at HCUT HCX HXL HXC HXS HXB
    clear hX
    by_cases hlt : outs.length < l0.length
    case neg =>
      have hnl : X = [] := by
        have h1 := P.out.2.2.2; have h2 := P.out.1; have h3 := HXL.out
        exact List.eq_nil_of_length_eq_zero (by omega)
      have PS := Aside0.mk (P.out.stop (by rw [HX.out, hnl]; decide))
      clear hnl HCUT
      go_wp2
      go_ret2
      exact ⟨_, by rw [PS.out]; rfl, by rw [PS.out]; exact H.out.1, H.out.2⟩
    case pos =>
    have hm := HL.out
    by_cases eo : (openP X).2.2 = 0
    · obtain ⟨dd, k, hon⟩ : ∃ dd k, openP X = (dd, k, 0) := ⟨(openP X).1, (openP X).2.1, by rw [← eo]⟩
      have HON := Aside0.mk hon
      have PS := Aside0.mk (P.out.step HS.out (by rw [HX.out]; exact hon))
      clear hon eo
      go_wp2_with (fail)
      refine (rOpen_calls AX (c0 - n) X _ HCX.out HXC.out HXS.out HXB.out).mono ?_
      rw [HON.out]
      rintro e w5 ⟨v5, rfl, hR, hB⟩
      obtain ⟨A5, c5, rfl⟩ := Kd.R_slice hR
      have HM := Aside0.mk (show Kd.M KdB w5 w.heap.size (fun k => wr.heap.size ≤ k) dd [.slice A5 dd.length c5] from ⟨_, rfl, Kd.R_lower (Kd.R_mono (Kd.R_bound hR) (fun k hk => hk.2.1)) H.out.2.size⟩)
      have HF := Aside0.mk (Kd.fresh_ok H.out.1)
      have H1 := Aside0.mk (H.out.below hB)
      have HLN := Aside0.mk (show (outs.length + 1) * 24 ≤ 140737488355328 by have h1 := HL.out; have h2 := P.out.2.2.2; have h3 := P.out.1; omega)
      have HW := Aside0.mk (show wrap64 ((n : Int) + (k : Int)) = ((n + k : Nat) : Int) by
        have h1 := PS.out.2; have h2 := HL.out
        unfold wrap64; omega)
      clear hR hB H HCUT
      go_wp2_with (first | ((with_reducible refine gate_builtin (b := .append) (xs := #[.tmp 23, .tmp 25]) rfl ?_); at_builtin; refine Kd.R_append KdB (w0 := w) w.heap.size rfl (.tmp 23) (.tmp 25) 46 32 (.slice none 0 0) 24 rfl Try.underlying46 info32 rfl (by decide) (by omega) (.slice A outs.length c) outs dd [.slice A5 dd.length c5] (fun _ => True) (fun k => wr.heap.size ≤ k) rfl rfl HM.out (fun k hk => ⟨trivial, HF.out k hk⟩) (fun _ _ => trivial) H1.out.1 H1.out.2 H1.out.2.size HLN.out ?_; intro v1 w7 h1 h2 h3 _; have HR7 := Aside0.mk h1; have HB7 := Aside0.mk h2; clear h1 h2 h3))
      obtain ⟨A7, c7, e7⟩ := Kd.R_slice HR7.out
      subst e7
      rw [HW.out]
      go_roundg f
      case rel => exact ⟨n + k, outs ++ [dd], A7, c7, rfl, rfl, by rw [List.length_append]; go_num, by rw [List.length_append]; exact hlt, ⟨HR7.out, HB7.out⟩, ⟨PS.out.1⟩⟩
      case measure => omega
    · have HE := Aside0.mk eo
      have PS := Aside0.mk (P.out.stop (by rw [HX.out]; exact eo))
      have heo3 : ((openP X).2.2 != (0 : Int)) = true := by simpa using eo
      have heo2 : ((openP X).2.2 == (0 : Int)) = false := by simpa using eo
      clear eo
      go_wp2_with (fail)
      refine (rOpen_calls AX (c0 - n) X _ HCX.out HXC.out HXS.out HXB.out).mono ?_
      rintro e w5 ⟨v5, rfl, hR, hB⟩
      have H1 := Aside0.mk (H.out.below hB)
      clear hR hB H HCUT
      generalize (openP X).2.2 = er at *
      go_wp2_with (fail)
      go_ret2
      exact ⟨_, by rw [PS.out]; rfl, by rw [PS.out]; exact H1.out.1, H1.out.2⟩
end Go.Proofs.Ytehjbhnlbjbhfaa.WkR
-- PDiskBeginsx0
namespace Go.Proofs.Ytehjbhnlbjbhfaa.PDiskBegins
open Go.RowKit Go.Proofs.YtehjbhnlbjbhfaaW.PrintWords Go.Proofs.YtehjbhnlbjbhfaaW.PrintLast Go.Proofs.YtehjbhnlbjbhfaaW.PrintMore
attribute [local go_sem] max2_int min2_int max_two min_two
set_option linter.unusedVariables false
set_option linter.unusedSimpArgs false
def errW : Option Int → Value
  | none => .nilIface
  | some c => .iface 0 (.int .i64 c)
theorem errW_none : errW none = .nilIface := rfl
theorem errW_some (c : Int) : errW (some c) = .iface 0 (.int .i64 c) := rfl
theorem info3 : (Try.prog.info? 3).map (fun i => (i.zero, i.size, i.bytes)) = some (some (.int .i64 0), 1, 8) := by kernel_rfl
theorem info5 : (Try.prog.info? 5).map (fun i => (i.zero, i.size, i.bytes)) = some (some (.int .u8 0), 1, 1) := by kernel_rfl
structure S35 where
  f0 : Int
  f1 : Int
  f2 : Int
  f3 : (List Int)
  f4 : (List Int)
def z35 : S35 := ⟨(0 : Int), (0 : Int), (0 : Int), ([] : List Int), ([] : List Int)⟩
def rd_T35 (xs : List S35) (i : Int) : S35 := xs.getD i.toNat z35
def rd_L5 (xs : List (List S35)) (i : Int) : (List S35) := xs.getD i.toNat ([] : List S35)
end Go.Proofs.Ytehjbhnlbjbhfaa.PDiskBegins
-- DkP
namespace Go.Proofs.Ytehjbhnlbjbhfaa.PDiskBegins
open Go.RowKit Go.Proofs.YtehjbhnlbjbhfaaW.PrintWords Go.Proofs.YtehjbhnlbjbhfaaW.PrintLast Go.Proofs.YtehjbhnlbjbhfaaW.PrintMore
attribute [local go_sem] max2_int min2_int max_two min_two
set_option linter.unusedVariables false
set_option linter.unusedSimpArgs false
mutual
def towlinelaw05_short.l0 : Nat → Int → Int → List (List (S35)) → Int → Int → Option (Bool)
  | 0, _, _, _, _, _ => none
  | k + 1, x3, x4, x8, x9, x10 => if x10 < x9 then (if 0 ≤ x10 then (if x10 < (x8.length : Int) then (towlinelaw05_short.l1 k x3 x4 (rd_L5 x8 x10) 0 x8 x9 x10) else (none)) else (none)) else (if x4 ≤ 150 then (some (decide (x3 ≤ 16384))) else (some false))
def towlinelaw05_short.l1 : Nat → Int → Int → List (S35) → Int → List (List (S35)) → Int → Int → Option (Bool)
  | 0, _, _, _, _, _, _, _ => none
  | k + 1, x3, x4, x6, x7, x8, x9, x10 => if x7 < (x6.length : Int) then (if x4 ≤ 150 then (if x3 ≤ 16384 then (if 0 ≤ x7 then (towlinelaw05_short.l1 k (wrap64 (x3 + ((mn (((rd_T35 x6 x7).f3).length : Int) 16385) + (mn (((rd_T35 x6 x7).f4).length : Int) 16385)))) (wrap64 (x4 + 1)) x6 (wrap64 (x7 + 1)) x8 x9 x10) else (none)) else (towlinelaw05_short.l0 k x3 x4 x8 x9 (wrap64 (x10 + 1)))) else (towlinelaw05_short.l0 k x3 x4 x8 x9 (wrap64 (x10 + 1)))) else (towlinelaw05_short.l0 k x3 x4 x8 x9 (wrap64 (x10 + 1)))
end
def slices_Clone_byte_byte.f (l0 : List Int) : Option (List Int) := if l0.length < 140737488355328 then some l0 else none
set_option maxHeartbeats 8000000 in
set_option maxRecDepth 100000 in
theorem slices_Clone_byte_byte.calls (A0 : Option Addr) (c0 : Nat) (l0 : List Int) (r : List Int) (w : World) (hr0 : Kd.C (Kd.int .u8) w A0 l0.length l0) (hc0 : l0.length ≤ c0) (h : slices_Clone_byte_byte.f l0 = some r) :
    Calls Try.prog 14 #[.slice A0 l0.length c0] w fun e w' => ∃ v0_ : Value, e = .returned (v0_) ∧ Kd.R (Kd.int .u8) 5 w' w.heap.size (fun _ => True) v0_ r ∧ Below w.heap.size w w' := by
  unfold slices_Clone_byte_byte.f at h
  by_cases c1 : l0.length < 140737488355328
  · rw [if_pos c1] at h
    obtain rfl := Option.some.inj h
    clear h
    have LM := Aside0.mk c1
    clear c1
    have HR0 := Aside0.mk hr0
    have HC0 := Aside0.mk hc0
    clear hr0 hc0
    have HB := Aside0.mk (Below.refl w.heap.size w)
    cases A0 with
    | none =>
      have hn : l0 = [] := by
        cases l0 with
        | nil => rfl
        | cons a_ b_ => obtain ⟨ad, c, e, _⟩ := Kd.C_get HR0.out (0 : Int) 0 (by decide) (by simp); cases e
      subst hn
      have heq : ∀ W : World, (binOp .eql 32 (.slice none ([] : List Int).length c0) (.slice none 0 0)).run Try.prog W = .ok (.bool true) W := fun W => Lib.run_eql_slice_nil W 32 5 none _ _ _ _ Try.underlying32
      have heq2 : ∀ W : World, (binOp .eql 32 (.slice none 0 c0) (.slice none 0 0)).run Try.prog W = .ok (.bool true) W := fun W => Lib.run_eql_slice_nil W 32 5 none _ _ _ _ Try.underlying32
      go_enter Try.func14, Try.ntmps14
      go_wp2
      go_ret
      exact ⟨_, rfl, Kd.R_nil _ _ _ _ _, HB.out⟩
    | some ad =>
      have heq : ∀ W : World, (binOp .eql 32 (.slice (some ad) l0.length c0) (.slice none 0 0)).run Try.prog W = .ok (.bool false) W := fun W => Lib.run_eql_slice_nil W 32 5 (some ad) _ _ _ _ Try.underlying32
      obtain ⟨y1, Ny1⟩ : ∃ y_ : List Int, Aside0 (y_ = ([] : List Int)) := ⟨_, ⟨rfl⟩⟩
      have LM2 := Aside0.mk (show y1.length + l0.length < 140737488355328 by have := LM.out; rw [Ny1.out]; simpa using this)
      have Ny2 := Aside0.mk (show l0 = y1 ++ l0 by rw [Ny1.out]; rfl)
      go_enter Try.func14, Try.ntmps14
      go_wp2_with (first | ((with_reducible refine gate_dst (N := 5) rfl ?_); refine Kd.R_lit (Kd.int .u8) _ 5 ?hg (N := 5) ?hd (xs := ([] : List Int)) (inner := []) (ok := fun _ => True) (okp := fun _ => True) ?hr ?hp (fun _ hk => hk) trivial (Below.refl _ _) (Nat.le_refl _) (by simp) ?_; (case hd => rfl); (case hg => rfl); (case hr => first | (go_simp; done) | (go_simp; rfl)); (case hp => exact (Reps.none _ _)); intro va w4 ho5 hb hg_ hnew_; clear hg_ hnew_; (first | rw [← Ny1.out] at ho5 | (simp only [Int.reduceToNat] at ho5; rw [← Ny1.out] at ho5)); have n0_ := Aside0.mk (Kd.R_lower ho5 (below_size (by repeat (first | (with_reducible first | exact HB.out | apply below_alloc | apply pw_below_drewN | apply below_drew1) | exact HB.out)))); have n1_ := Aside0.mk (below_step (by repeat (first | (with_reducible first | exact HB.out | apply below_alloc | apply pw_below_drewN | apply below_drew1) | exact HB.out)) hb); clear HB; have HOa := n0_; have HB := n1_; clear n0_ n1_; clear hb ho5) | ((with_reducible refine gate_builtin (b := .append) (xs := #[.tmp 5, .tmp 6]) rfl ?_); at_builtin; refine Kd.R_append_rows (Kd.int .u8) (w0 := w) w.heap.size rfl (.tmp 5) (.tmp 6) 32 5 (.int .u8 0) 1 rfl Try.underlying32 info5 rfl (by decide) (by omega) va y1 l0 _ _ _ (fun _ => True) (fun _ => False) rfl rfl ?aO ?aR (fun _ _ h => h) (fun _ h => h.elim) ?aF ?aB ?aS ?aL ?_; (case aR => repeat (first | exact (Kd.C_below HR0.out HB.out) | (with_reducible refine Kd.C_alloc ?_ _) | (with_reducible refine Kd.C_drewN ?_ _) | (with_reducible refine Kd.C_drew ?_))); (case aB => exact (by repeat (first | (with_reducible first | exact HB.out | apply below_alloc | apply pw_below_drewN | apply below_drew1) | exact HB.out))); (case aF => exact (fun _ _ => trivial)); (case aO => exact (by (with_reducible repeat (first | apply Kd.R_alloc | apply Kd.R_drewN | apply Kd.R_drew)); exact HOa.out)); (case aS => exact (below_size (by repeat (first | (with_reducible first | exact HB.out | apply below_alloc | apply pw_below_drewN | apply below_drew1) | exact HB.out)))); (case aL => have := LM2.out; omega); intro vb w6 ho hb hg hat; rw [← Ny2.out] at ho; have n0_ := Aside0.mk (hb); have n1_ := Aside0.mk (ho); clear HB; clear HOa; have HB := n0_; have HOa := n1_; clear n0_ n1_; clear ho hb hg hat))
      go_ret
      exact ⟨_, rfl, by (with_reducible repeat (first | apply Kd.R_alloc | apply Kd.R_drewN | apply Kd.R_drew)); exact HOa.out, by repeat (first | (with_reducible first | exact HB.out | apply below_alloc | apply pw_below_drewN | apply below_drew1) | exact HB.out)⟩
  · rw [if_neg c1] at h; cases h
def slices_Clone_int_int.f (l0 : List Int) : Option (List Int) := if l0.length < 17592186044416 then some l0 else none
set_option maxHeartbeats 8000000 in
set_option maxRecDepth 100000 in
theorem slices_Clone_int_int.calls (A0 : Option Addr) (c0 : Nat) (l0 : List Int) (r : List Int) (w : World) (hr0 : Kd.C (Kd.int .i64) w A0 l0.length l0) (hc0 : l0.length ≤ c0) (h : slices_Clone_int_int.f l0 = some r) :
    Calls Try.prog 15 #[.slice A0 l0.length c0] w fun e w' => ∃ v0_ : Value, e = .returned (v0_) ∧ Kd.R (Kd.int .i64) 3 w' w.heap.size (fun _ => True) v0_ r ∧ Below w.heap.size w w' := by
  unfold slices_Clone_int_int.f at h
  by_cases c1 : l0.length < 17592186044416
  · rw [if_pos c1] at h
    obtain rfl := Option.some.inj h
    clear h
    have LM := Aside0.mk c1
    clear c1
    have HR0 := Aside0.mk hr0
    have HC0 := Aside0.mk hc0
    clear hr0 hc0
    have HB := Aside0.mk (Below.refl w.heap.size w)
    cases A0 with
    | none =>
      have hn : l0 = [] := by
        cases l0 with
        | nil => rfl
        | cons a_ b_ => obtain ⟨ad, c, e, _⟩ := Kd.C_get HR0.out (0 : Int) 0 (by decide) (by simp); cases e
      subst hn
      have heq : ∀ W : World, (binOp .eql 33 (.slice none ([] : List Int).length c0) (.slice none 0 0)).run Try.prog W = .ok (.bool true) W := fun W => Lib.run_eql_slice_nil W 33 3 none _ _ _ _ Try.underlying33
      have heq2 : ∀ W : World, (binOp .eql 33 (.slice none 0 c0) (.slice none 0 0)).run Try.prog W = .ok (.bool true) W := fun W => Lib.run_eql_slice_nil W 33 3 none _ _ _ _ Try.underlying33
      go_enter Try.func15, Try.ntmps15
      go_wp2
      go_ret
      exact ⟨_, rfl, Kd.R_nil _ _ _ _ _, HB.out⟩
    | some ad =>
      have heq : ∀ W : World, (binOp .eql 33 (.slice (some ad) l0.length c0) (.slice none 0 0)).run Try.prog W = .ok (.bool false) W := fun W => Lib.run_eql_slice_nil W 33 3 (some ad) _ _ _ _ Try.underlying33
      obtain ⟨y1, Ny1⟩ : ∃ y_ : List Int, Aside0 (y_ = ([] : List Int)) := ⟨_, ⟨rfl⟩⟩
      have LM2 := Aside0.mk (show y1.length + l0.length < 17592186044416 by have := LM.out; rw [Ny1.out]; simpa using this)
      have Ny2 := Aside0.mk (show l0 = y1 ++ l0 by rw [Ny1.out]; rfl)
      go_enter Try.func15, Try.ntmps15
      go_wp2_with (first | ((with_reducible refine gate_dst (N := 5) rfl ?_); refine Kd.R_lit (Kd.int .i64) _ 3 ?hg (N := 5) ?hd (xs := ([] : List Int)) (inner := []) (ok := fun _ => True) (okp := fun _ => True) ?hr ?hp (fun _ hk => hk) trivial (Below.refl _ _) (Nat.le_refl _) (by simp) ?_; (case hd => rfl); (case hg => rfl); (case hr => first | (go_simp; done) | (go_simp; rfl)); (case hp => exact (Reps.none _ _)); intro va w4 ho5 hb hg_ hnew_; clear hg_ hnew_; (first | rw [← Ny1.out] at ho5 | (simp only [Int.reduceToNat] at ho5; rw [← Ny1.out] at ho5)); have n0_ := Aside0.mk (Kd.R_lower ho5 (below_size (by repeat (first | (with_reducible first | exact HB.out | apply below_alloc | apply pw_below_drewN | apply below_drew1) | exact HB.out)))); have n1_ := Aside0.mk (below_step (by repeat (first | (with_reducible first | exact HB.out | apply below_alloc | apply pw_below_drewN | apply below_drew1) | exact HB.out)) hb); clear HB; have HOa := n0_; have HB := n1_; clear n0_ n1_; clear hb ho5) | ((with_reducible refine gate_builtin (b := .append) (xs := #[.tmp 5, .tmp 6]) rfl ?_); at_builtin; refine Kd.R_append_rows (Kd.int .i64) (w0 := w) w.heap.size rfl (.tmp 5) (.tmp 6) 33 3 (.int .i64 0) 8 rfl Try.underlying33 info3 rfl (by decide) (by omega) va y1 l0 _ _ _ (fun _ => True) (fun _ => False) rfl rfl ?aO ?aR (fun _ _ h => h) (fun _ h => h.elim) ?aF ?aB ?aS ?aL ?_; (case aR => repeat (first | exact (Kd.C_below HR0.out HB.out) | (with_reducible refine Kd.C_alloc ?_ _) | (with_reducible refine Kd.C_drewN ?_ _) | (with_reducible refine Kd.C_drew ?_))); (case aB => exact (by repeat (first | (with_reducible first | exact HB.out | apply below_alloc | apply pw_below_drewN | apply below_drew1) | exact HB.out))); (case aF => exact (fun _ _ => trivial)); (case aO => exact (by (with_reducible repeat (first | apply Kd.R_alloc | apply Kd.R_drewN | apply Kd.R_drew)); exact HOa.out)); (case aS => exact (below_size (by repeat (first | (with_reducible first | exact HB.out | apply below_alloc | apply pw_below_drewN | apply below_drew1) | exact HB.out)))); (case aL => have := LM2.out; omega); intro vb w6 ho hb hg hat; rw [← Ny2.out] at ho; have n0_ := Aside0.mk (hb); have n1_ := Aside0.mk (ho); clear HB; clear HOa; have HB := n0_; have HOa := n1_; clear n0_ n1_; clear ho hb hg hat))
      go_ret
      exact ⟨_, rfl, by (with_reducible repeat (first | apply Kd.R_alloc | apply Kd.R_drewN | apply Kd.R_drew)); exact HOa.out, by repeat (first | (with_reducible first | exact HB.out | apply below_alloc | apply pw_below_drewN | apply below_drew1) | exact HB.out)⟩
  · rw [if_neg c1] at h; cases h
end Go.Proofs.Ytehjbhnlbjbhfaa.PDiskBegins
-- DkA
namespace Go.Proofs.Ytehjbhnlbjbhfaa.Dk
open Go Go.RowKit Go.Proofs.YtehjbhnlbjbhfaaW.PrintWords Go.Proofs.YtehjbhnlbjbhfaaW.PrintLast Go.Proofs.YtehjbhnlbjbhfaaW.PrintMore
set_option linter.unusedVariables false
structure Fl where
  seen : List Int
  lasts : List Int
  cl : Bool
structure DS where
  set : Bool
  left : Int
  keep : List Int
  fs : List Fl
  room : Int
  off : Bool
def nf : Fl := ⟨[], [], false⟩
def fl (s : DS) (i : Nat) : Fl := s.fs.getD i nf
def ableP (s : DS) (i : Int) : Int := if s.room = 0 then 6 else if s.off = true then 50 else if i < 0 ∨ 8 ≤ i then 51 else 0
def usedP (s : DS) : Nat := (s.fs.map fun f => f.seen.length).sum
def afterP (f : Fl) (k : Int) : Fl :=
  if 0 ≤ k then (if f.cl = true then ⟨f.seen.take k.toNat, f.seen.take k.toNat, false⟩ else ⟨f.seen.take (f.lasts.length + k.toNat), f.seen.take (f.lasts.length + k.toNat), false⟩)
  else ⟨f.lasts, f.lasts, false⟩
def kv (keep : List Int) (i : Nat) : Int := if i < keep.length then rd keep (i : Int) else -1
def fallFs (keep : List Int) : Nat → List Fl → List Fl
  | _, [] => []
  | i, f :: r => afterP f (kv keep i) :: fallFs keep (i + 1) r
def fallP (s : DS) (keep : List Int) : DS := ⟨false, 0, [], fallFs keep 0 s.fs, s.room, true⟩
def struckP (s : DS) (n : Nat) : Bool := s.set && decide (s.left ≤ (n : Int))
def burnN (s : DS) (n : Nat) : Nat := if s.set = true ∧ s.left ≤ (n : Int) then s.left.toNat else n
def burnS (s : DS) (n : Nat) : DS := if s.set = true ∧ (n : Int) < s.left then { s with left := s.left - n } else s
def setF (s : DS) (i : Nat) (f : Fl) : DS := { s with fs := s.fs.set i f }
def actP (s : DS) (n : Nat) (done : DS → Nat → DS) : DS × Int :=
  if struckP s n = true then (fallP (done (burnS s n) (burnN s n)) s.keep, 50) else (done (burnS s n) (burnN s n), 0)
def doneA (i : Nat) (b : List Int) (s : DS) (n : Nat) : DS := setF s i ⟨(fl s i).seen ++ b.take n, (fl s i).lasts, (fl s i).cl⟩
def doneC (i : Nat) (s : DS) (n : Nat) : DS := if n = 1 then setF s i ⟨[], (fl s i).lasts, true⟩ else s
def doneY (i : Nat) (s : DS) (n : Nat) : DS := if n = 1 then setF s i ⟨(fl s i).seen, (fl s i).seen, false⟩ else s
def appendP (s : DS) (i : Int) (b : List Int) : DS × Int :=
  if ableP s i ≠ 0 then (s, ableP s i) else if s.room < (usedP s : Int) + (b.length : Int) then (s, 7) else actP s b.length (doneA i.toNat b)
def clearP (s : DS) (i : Int) : DS × Int := if ableP s i ≠ 0 then (s, ableP s i) else actP s 1 (doneC i.toNat)
def syncP (s : DS) (i : Int) : DS × Int := if ableP s i ≠ 0 then (s, ableP s i) else actP s 1 (doneY i.toNat)
def readP (s : DS) (i : Int) : List Int × Int := if ableP s i ≠ 0 then ([], ableP s i) else ((fl s i.toNat).seen, 0)
def crashP (s : DS) (keep : List Int) : DS × Int := if ableP s 0 ≠ 0 then (s, ableP s 0) else (fallP s keep, 0)
def armP (s : DS) (n : Int) (keep : List Int) : DS × Int := if ableP s 0 ≠ 0 then (s, ableP s 0) else if n < 1 then (s, 1) else ({ s with set := true, left := n, keep := keep }, 0)
def startP (s : DS) : DS × Int := if s.room = 0 then (s, 6) else ({ s with off := false }, 0)
def newP (room : Int) : DS := ⟨false, 0, [], List.replicate 8 nf, room, false⟩
structure Ok (s : DS) : Prop where
  len : s.fs.length = 8
  pre : ∀ f ∈ s.fs, f.cl = false → ∃ t, f.seen = f.lasts ++ t
  big : ∀ f ∈ s.fs, f.lasts.length ≤ 4194304
  told : ∀ f ∈ s.fs, f.seen.length ≤ 4194304
  fuse : s.set = true → 1 ≤ s.left ∧ s.left ≤ 9223372036854775807
  room : 0 ≤ s.room ∧ s.room ≤ 4194304
  keep : s.keep.length < 1000000000
structure FV where
  sv : Value
  lv : Value
  cl : Bool
structure DV where
  set : Bool
  left : Int
  kv : Value
  fs : List FV
  room : Int
  off : Bool
def FV.cells (f : FV) : List Value := [f.sv, f.lv, .bool f.cl]
def DV.cells (d : DV) : List Value := [.bool d.set, .int .i64 d.left, d.kv] ++ (d.fs.flatMap FV.cells ++ [.int .i64 d.room, .bool d.off])
def nv : FV := ⟨.slice none 0 0, .slice none 0 0, false⟩
def DV.f (d : DV) (i : Nat) : FV := d.fs.getD i nv
def At (W : World) (g : Nat) (d : DV) : Prop := d.fs.length = 8 ∧ W.heap[g]? = some (.cells d.cells.toArray 64 (0, 0))
theorem eight {α : Type} {l : List α} (h : l.length = 8) : ∃ a0 a1 a2 a3 a4 a5 a6 a7, l = [a0, a1, a2, a3, a4, a5, a6, a7] := by
  match l, h with
  | [a0, a1, a2, a3, a4, a5, a6, a7], _ => exact ⟨a0, a1, a2, a3, a4, a5, a6, a7, rfl⟩
theorem below8 {i : Nat} (h : i < 8) : i = 0 ∨ i = 1 ∨ i = 2 ∨ i = 3 ∨ i = 4 ∨ i = 5 ∨ i = 6 ∨ i = 7 := by omega
section
variable {W : World} {g : Nat} {d : DV}
theorem At.cell (h : At W g d) (i : Nat) : W.cell? ⟨g, i, none⟩ = d.cells[i]? := by
  rw [blk_cell h.2 i]; simp
theorem At.frozen (h : At W g d) (i : Nat) : W.frozen? ⟨g, i, none⟩ = false := blk_frozen h.2 i
theorem At.c0 (h : At W g d) : W.cell? ⟨g, 0, none⟩ = some (.bool d.set) := (h.cell 0).trans rfl
theorem At.c1 (h : At W g d) : W.cell? ⟨g, 1, none⟩ = some (.int .i64 d.left) := (h.cell 1).trans rfl
theorem At.c2 (h : At W g d) : W.cell? ⟨g, 2, none⟩ = some d.kv := (h.cell 2).trans rfl
theorem At.c27 (h : At W g d) : W.cell? ⟨g, 27, none⟩ = some (.int .i64 d.room) := by
  rw [h.cell 27]
  obtain ⟨a0, a1, a2, a3, a4, a5, a6, a7, e⟩ := eight h.1
  unfold DV.cells; rw [e]; rfl
theorem At.c28 (h : At W g d) : W.cell? ⟨g, 28, none⟩ = some (.bool d.off) := by
  rw [h.cell 28]
  obtain ⟨a0, a1, a2, a3, a4, a5, a6, a7, e⟩ := eight h.1
  unfold DV.cells; rw [e]; rfl
theorem At.sv (h : At W g d) {i : Nat} (hi : i < 8) : W.cell? ⟨g, 3 + i * 3, none⟩ = some (d.f i).sv := by
  rw [h.cell]
  obtain ⟨a0, a1, a2, a3, a4, a5, a6, a7, e⟩ := eight h.1
  unfold DV.cells DV.f; rw [e]
  rcases below8 hi with rfl | rfl | rfl | rfl | rfl | rfl | rfl | rfl <;> rfl
theorem At.lv (h : At W g d) {i : Nat} (hi : i < 8) : W.cell? ⟨g, 3 + i * 3 + 1, none⟩ = some (d.f i).lv := by
  rw [h.cell]
  obtain ⟨a0, a1, a2, a3, a4, a5, a6, a7, e⟩ := eight h.1
  unfold DV.cells DV.f; rw [e]
  rcases below8 hi with rfl | rfl | rfl | rfl | rfl | rfl | rfl | rfl <;> rfl
theorem At.cl (h : At W g d) {i : Nat} (hi : i < 8) : W.cell? ⟨g, 3 + i * 3 + 2, none⟩ = some (.bool (d.f i).cl) := by
  rw [h.cell]
  obtain ⟨a0, a1, a2, a3, a4, a5, a6, a7, e⟩ := eight h.1
  unfold DV.cells DV.f; rw [e]
  rcases below8 hi with rfl | rfl | rfl | rfl | rfl | rfl | rfl | rfl <;> rfl
theorem At.lt (h : At W g d) : g < W.heap.size := blk_lt h.2
theorem At.same (h : At W g d) {W' : World} (he : W'.heap[g]? = W.heap[g]?) : At W' g d := ⟨h.1, he.trans h.2⟩
theorem At.put (h : At W g d) {d' : DV} (hl : d'.fs.length = 8) (i : Nat) (u : Value) (e : d.cells.toArray.setIfInBounds i u = d'.cells.toArray) : At (W.setCell ⟨g, i, none⟩ u) g d' := ⟨hl, e ▸ blk_set h.2 i u⟩
theorem At.set0 (h : At W g d) (b : Bool) : At (W.setCell ⟨g, 0, none⟩ (.bool b)) g { d with set := b } := h.put (d' := { d with set := b }) h.1 0 _ (by unfold DV.cells; rfl)
theorem At.set1 (h : At W g d) (x : Int) : At (W.setCell ⟨g, 1, none⟩ (.int .i64 x)) g { d with left := x } := h.put (d' := { d with left := x }) h.1 1 _ (by unfold DV.cells; rfl)
theorem At.set2 (h : At W g d) (v : Value) : At (W.setCell ⟨g, 2, none⟩ v) g { d with kv := v } := h.put (d' := { d with kv := v }) h.1 2 _ (by unfold DV.cells; rfl)
theorem At.set28 (h : At W g d) (b : Bool) : At (W.setCell ⟨g, 28, none⟩ (.bool b)) g { d with off := b } := by
  refine h.put (d' := { d with off := b }) h.1 28 _ ?_
  obtain ⟨a0, a1, a2, a3, a4, a5, a6, a7, e⟩ := eight h.1
  unfold DV.cells; simp only [e]; rfl
theorem At.setS (h : At W g d) {i : Nat} (hi : i < 8) (v : Value) : At (W.setCell ⟨g, 3 + i * 3, none⟩ v) g { d with fs := d.fs.set i ⟨v, (d.f i).lv, (d.f i).cl⟩ } := by
  refine h.put (by simp [h.1]) _ _ ?_
  obtain ⟨a0, a1, a2, a3, a4, a5, a6, a7, e⟩ := eight h.1
  unfold DV.cells DV.f; simp only [e]
  rcases below8 hi with rfl | rfl | rfl | rfl | rfl | rfl | rfl | rfl <;> rfl
theorem At.setL (h : At W g d) {i : Nat} (hi : i < 8) (v : Value) : At (W.setCell ⟨g, 3 + i * 3 + 1, none⟩ v) g { d with fs := d.fs.set i ⟨(d.f i).sv, v, (d.f i).cl⟩ } := by
  refine h.put (by simp [h.1]) _ _ ?_
  obtain ⟨a0, a1, a2, a3, a4, a5, a6, a7, e⟩ := eight h.1
  unfold DV.cells DV.f; simp only [e]
  rcases below8 hi with rfl | rfl | rfl | rfl | rfl | rfl | rfl | rfl <;> rfl
theorem At.setC (h : At W g d) {i : Nat} (hi : i < 8) (b : Bool) : At (W.setCell ⟨g, 3 + i * 3 + 2, none⟩ (.bool b)) g { d with fs := d.fs.set i ⟨(d.f i).sv, (d.f i).lv, b⟩ } := by
  refine h.put (by simp [h.1]) _ _ ?_
  obtain ⟨a0, a1, a2, a3, a4, a5, a6, a7, e⟩ := eight h.1
  unfold DV.cells DV.f; simp only [e]
  rcases below8 hi with rfl | rfl | rfl | rfl | rfl | rfl | rfl | rfl <;> rfl
end
def Rw (G : Nat → Prop) (k : IntKind) (W : World) (v : Value) (xs : List Int) : Prop := Kd.V (Kd.int k) 0 W 0 (fun b => ¬ G b) v xs
theorem Rw.nil (G : Nat → Prop) (k : IntKind) (W : World) : Rw G k W (.slice none 0 0) [] := Kd.V_nil _ _ _ _ _
theorem Rw.slice {G : Nat → Prop} {k : IntKind} {W : World} {v : Value} {xs : List Int} (h : Rw G k W v xs) : ∃ A c, v = .slice A xs.length c ∧ xs.length ≤ c ∧ (Kd.int k).C W A xs.length xs := by
  obtain ⟨A, c, rfl⟩ := Kd.V_slice h
  exact ⟨A, c, rfl, (Kd.V_reads' h).2.1, (Kd.V_reads' h).2.2⟩
theorem Rw.step {G : Nat → Prop} {k : IntKind} {W W' : World} {v : Value} {xs : List Int} (h : Rw G k W v xs) (hm : ∀ b, ¬ G b → b < W.heap.size → W'.heap[b]? = W.heap[b]?) : Rw G k W' v xs := Kd.V_step h hm
theorem Rw.grow {G G' : Nat → Prop} {k : IntKind} {W : World} {v : Value} {xs : List Int} (h : Rw G k W v xs) (hg : ∀ b, b < W.heap.size → G' b → G b) : Rw G' k W v xs := Kd.V_mono (Kd.V_bound h) (fun b hb hG => hb.1 (hg b hb.2 hG))
theorem Rw.of_R {G : Nat → Prop} {k : IntKind} {e : Nat} {W W0 : World} {v : Value} {xs : List Int} (h : Kd.R (Kd.int k) e W W0.heap.size (fun _ => True) v xs) (hG : ∀ b, G b → b < W0.heap.size) : Rw G k W v xs :=
  show Kd.V (Kd.int k) e W 0 (fun b => ¬ G b) v xs from Kd.R_V (Kd.R_mono (Kd.R_bound h) (fun b hb hg => by have := hb.2.1; have := hG b hg; omega))
theorem Rw.of_V {G : Nat → Prop} {k : IntKind} {e base : Nat} {W W0 : World} {v : Value} {xs : List Int} (h : Kd.V (Kd.int k) e W base (fun b => W0.heap.size ≤ b) v xs) (hG : ∀ b, G b → b < W0.heap.size) : Rw G k W v xs :=
  Kd.V_mono h (fun b hb hg => by have := hG b hg; omega)
def FR (G : Nat → Prop) (W : World) (v : FV) (f : Fl) : Prop := Rw G .u8 W v.sv f.seen ∧ Rw G .u8 W v.lv f.lasts ∧ v.cl = f.cl
def Rows (G : Nat → Prop) (W : World) (d : DV) (s : DS) : Prop := d.set = s.set ∧ d.left = s.left ∧ Rw G .i64 W d.kv s.keep ∧ d.room = s.room ∧ d.off = s.off ∧ s.fs.length = 8 ∧ ∀ i, i < 8 → FR G W (d.f i) (fl s i)
structure IsD (G : Nat → Prop) (W : World) (g : Nat) (s : DS) : Prop where
  lt : ∀ b, G b → b < W.heap.size
  gg : G g
  ex : ∃ d, At W g d ∧ Rows G W d s
structure Wr (g : Nat) (w w' : World) : Prop where
  os : w'.os = w.os
  tape : w'.tape = w.tape
  output : w'.output = w.output
  size : w.heap.size ≤ w'.heap.size
  block : ∀ i, i < w.heap.size → i ≠ g → w'.heap[i]? = w.heap[i]?
theorem Wr.refl (g : Nat) (w : World) : Wr g w w := ⟨rfl, rfl, rfl, Nat.le_refl _, fun _ _ _ => rfl⟩
theorem Wr.trans {g : Nat} {w w1 w2 : World} (h : Wr g w w1) (k : Wr g w1 w2) : Wr g w w2 :=
  ⟨k.os.trans h.os, k.tape.trans h.tape, k.output.trans h.output, Nat.le_trans h.size k.size, fun i hi hne => (k.block i (Nat.lt_of_lt_of_le hi h.size) hne).trans (h.block i hi hne)⟩
theorem Wr.of_below {g : Nat} {w w1 : World} (h : Below w.heap.size w w1) : Wr g w w1 := ⟨h.os, h.tape, h.output, h.size, fun i hi _ => h.block i hi⟩
theorem Wr.set {g : Nat} {w w1 : World} (h : Wr g w w1) (j : Nat) (u : Value) : Wr g w (w1.setCell ⟨g, j, none⟩ u) :=
  have hb : Below 0 w1 (w1.setCell ⟨g, j, none⟩ u) := (Below.refl 0 w1).setCell (p := ⟨g, j, none⟩) (Nat.zero_le _) u
  h.trans ⟨hb.os, hb.tape, hb.output, by simp, fun i _ hne => Below.heap_setCell w1 ⟨g, j, none⟩ u i hne⟩
theorem Wr.below {g : Nat} {w0 w w1 : World} (h : Wr g w w1) (hb : Below w0.heap.size w0 w) (hg : w0.heap.size ≤ g) : Below w0.heap.size w0 w1 :=
  ⟨h.os.trans hb.os, h.tape.trans hb.tape, h.output.trans hb.output, Nat.le_trans hb.size h.size, fun i hi => (h.block i (Nat.lt_of_lt_of_le hi hb.size) (by omega)).trans (hb.block i hi)⟩
theorem Rw.wr {G : Nat → Prop} {k : IntKind} {g : Nat} {W W' : World} {v : Value} {xs : List Int} (h : Rw G k W v xs) (hw : Wr g W W') (hg : G g) : Rw G k W' v xs := h.step (fun b hb hlt => hw.block b hlt (fun e => hb (e ▸ hg)))
theorem Rw.below {G : Nat → Prop} {k : IntKind} {W W' : World} {v : Value} {xs : List Int} (h : Rw G k W v xs) (hw : Below W.heap.size W W') : Rw G k W' v xs := h.step (fun b _ hlt => hw.block b hlt)
theorem Rows.wr {G : Nat → Prop} {g : Nat} {W W' : World} {d : DV} {s : DS} (h : Rows G W d s) (hw : Wr g W W') (hg : G g) : Rows G W' d s :=
  ⟨h.1, h.2.1, h.2.2.1.wr hw hg, h.2.2.2.1, h.2.2.2.2.1, h.2.2.2.2.2.1, fun i hi => ⟨(h.2.2.2.2.2.2 i hi).1.wr hw hg, (h.2.2.2.2.2.2 i hi).2.1.wr hw hg, (h.2.2.2.2.2.2 i hi).2.2⟩⟩
theorem IsD.other {G : Nat → Prop} {g g' : Nat} {W W' : World} {s : DS} (h : IsD G W g s) (hw : Wr g' W W') (hg : G g') (hne : g ≠ g') : IsD G W' g s := by
  obtain ⟨h1, h2, d, hA, hR⟩ := h
  exact ⟨fun b hb => Nat.lt_of_lt_of_le (h1 b hb) hw.size, h2, d, hA.same (hw.block g (h1 g h2) hne), hR.wr hw hg⟩
theorem IsD.below {G : Nat → Prop} {g : Nat} {W W' : World} {s : DS} (h : IsD G W g s) (hw : Below W.heap.size W W') : IsD G W' g s := by
  obtain ⟨h1, h2, d, hA, hR⟩ := h
  exact ⟨fun b hb => Nat.lt_of_lt_of_le (h1 b hb) hw.size, h2, d, hA.same (hw.block g (h1 g h2)), hR.wr (Wr.of_below hw) h2⟩
theorem IsD.more {G : Nat → Prop} {g b : Nat} {W W' : World} {s : DS} (h : IsD G W g s) (hb : W.heap.size ≤ b) (hb' : b < W'.heap.size) (hw : Below W.heap.size W W') : IsD (fun k => G k ∨ k = b) W' g s := by
  have h' := h.below hw
  obtain ⟨h1, h2, d, hA, hR⟩ := h
  have hR' : Rows (fun k => G k ∨ k = b) W d s := ⟨hR.1, hR.2.1, hR.2.2.1.grow (fun k hk hG => hG.elim id (fun e => by omega)), hR.2.2.2.1, hR.2.2.2.2.1, hR.2.2.2.2.2.1, fun i hi => ⟨(hR.2.2.2.2.2.2 i hi).1.grow (fun k hk hG => hG.elim id (fun e => by omega)), (hR.2.2.2.2.2.2 i hi).2.1.grow (fun k hk hG => hG.elim id (fun e => by omega)), (hR.2.2.2.2.2.2 i hi).2.2⟩⟩
  exact ⟨fun k hk => hk.elim (h'.lt k) (fun e => e ▸ hb'), .inl h2, d, hA.same (hw.block g (h1 g h2)), hR'.wr (Wr.of_below hw) (.inl h2)⟩
end Go.Proofs.Ytehjbhnlbjbhfaa.Dk
-- DkB
namespace Go.Proofs.Ytehjbhnlbjbhfaa.Dk
open Go Go.RowKit Go.Proofs.YtehjbhnlbjbhfaaW.PrintWords Go.Proofs.YtehjbhnlbjbhfaaW.PrintLast Go.Proofs.YtehjbhnlbjbhfaaW.PrintMore
open Go.Proofs.Ytehjbhnlbjbhfaa.PDiskBegins
attribute [local go_sem] max2_int min2_int max_two min_two
set_option linter.unusedVariables false
set_option maxHeartbeats 2000000 in
theorem able_calls (G : Nat → Prop) (g : Nat) (s : DS) (i : Int) (w : World) (h : IsD G w g s) : Calls Try.prog 58 #[.pointer (some ⟨g, 0, none⟩), .int .i64 i] w fun e w' => e = .returned (.int .i64 (ableP s i)) ∧ Drawn0 w w' := by
  obtain ⟨_, _, d, hA, hR⟩ := h
  have hc27 := hA.c27
  have hc28 := hA.c28
  have HAB := Aside0.mk (show ableP s i = if d.room = 0 then 6 else if d.off = true then 50 else if i < 0 ∨ 8 ≤ i then 51 else 0 by unfold ableP; rw [hR.2.2.2.1, hR.2.2.2.2.1])
  clear hA hR
  rw [HAB.out]
  by_cases c1 : d.room = 0
  · rw [if_pos c1]
    rw [c1] at hc27
    clear c1 HAB
    go_enter Try.func58, Try.ntmps58
    go_wp2
    go_ret
    exact ⟨rfl, Drawn0.refl _⟩
  · rw [if_neg c1]
    have d1 : (d.room == (0 : Int)) = false := by simpa using c1
    clear HAB
    by_cases c2 : d.off = true
    · rw [if_pos c2]
      rw [c2] at hc28
      clear c1 c2
      go_enter Try.func58, Try.ntmps58
      go_wp2
      go_ret
      exact ⟨rfl, Drawn0.refl _⟩
    · rw [if_neg c2]
      have c2' : d.off = false := by simpa using c2
      rw [c2'] at hc28
      clear c2 c2' c1
      by_cases c3 : i < 0
      · rw [if_pos (.inl c3)]
        have d3 : decide (i < 0) = true := decide_eq_true c3
        go_enter Try.func58, Try.ntmps58
        go_wp2
        go_ret
        exact ⟨rfl, Drawn0.refl _⟩
      · have d3 : decide (i < 0) = false := decide_eq_false c3
        by_cases c4 : 8 ≤ i
        · rw [if_pos (.inr c4)]
          have d4 : decide (8 ≤ i) = true := decide_eq_true c4
          go_enter Try.func58, Try.ntmps58
          go_wp2
          go_ret
          exact ⟨rfl, Drawn0.refl _⟩
        · rw [if_neg (by omega)]
          have d4 : decide (8 ≤ i) = false := decide_eq_false c4
          go_enter Try.func58, Try.ntmps58
          go_wp2
          go_ret
          exact ⟨rfl, Drawn0.refl _⟩
theorem Clone_b (A0 : Option Addr) (c0 : Nat) (l0 : List Int) (w : World) (hr0 : Kd.C (Kd.int .u8) w A0 l0.length l0) (hc0 : l0.length ≤ c0) (hl : l0.length < 140737488355328) :
    Calls Try.prog 14 #[.slice A0 l0.length c0] w fun e w' => ∃ v0_ : Value, e = .returned (v0_) ∧ Kd.R (Kd.int .u8) 5 w' w.heap.size (fun _ => True) v0_ l0 ∧ Below w.heap.size w w' :=
  slices_Clone_byte_byte.calls A0 c0 l0 l0 w hr0 hc0 (by unfold slices_Clone_byte_byte.f; rw [if_pos hl])
theorem Clone_i (A0 : Option Addr) (c0 : Nat) (l0 : List Int) (w : World) (hr0 : Kd.C (Kd.int .i64) w A0 l0.length l0) (hc0 : l0.length ≤ c0) (hl : l0.length < 17592186044416) :
    Calls Try.prog 15 #[.slice A0 l0.length c0] w fun e w' => ∃ v0_ : Value, e = .returned (v0_) ∧ Kd.R (Kd.int .i64) 3 w' w.heap.size (fun _ => True) v0_ l0 ∧ Below w.heap.size w w' :=
  slices_Clone_int_int.calls A0 c0 l0 l0 w hr0 hc0 (by unfold slices_Clone_int_int.f; rw [if_pos hl])
theorem able_cases (s : DS) (i : Int) : (ableP s i ≠ 0) ∨ (ableP s i = 0 ∧ ∃ j : Nat, j < 8 ∧ i = (j : Int) ∧ s.room ≠ 0 ∧ s.off = false) := by
  unfold ableP
  by_cases c1 : s.room = 0
  · rw [if_pos c1]; exact .inl (by decide)
  · rw [if_neg c1]
    by_cases c2 : s.off = true
    · rw [if_pos c2]; exact .inl (by decide)
    · rw [if_neg c2]
      by_cases c3 : i < 0 ∨ 8 ≤ i
      · rw [if_pos c3]; exact .inl (by decide)
      · rw [if_neg c3]; exact .inr ⟨rfl, i.toNat, by omega, by omega, c1, by simpa using c2⟩
theorem Ok.fl_mem {s : DS} (h : Ok s) {i : Nat} (hi : i < 8) : fl s i ∈ s.fs := by
  unfold fl
  rw [List.getD_eq_getElem?_getD, List.getElem?_eq_getElem (by rw [h.len]; exact hi)]
  exact List.getElem_mem _
theorem sum_mem : ∀ (l : List Nat) (x : Nat), x ∈ l → x ≤ l.sum := by
  intro l
  induction l with
  | nil => intro x h; cases h
  | cons a l ih =>
    intro x h
    rw [List.sum_cons]
    rcases List.mem_cons.1 h with h | h
    · omega
    · have := ih x h; omega
theorem Ok.seen_le {s : DS} (h : Ok s) {i : Nat} (hi : i < 8) : (fl s i).seen.length ≤ 4194304 := h.told _ (h.fl_mem hi)
set_option maxHeartbeats 2000000 in
theorem Read_calls (G : Nat → Prop) (g : Nat) (s : DS) (i : Int) (w : World) (h : IsD G w g s) (hok : Ok s) : Calls Try.prog 20 #[.pointer (some ⟨g, 0, none⟩), .int .i64 i] w fun e w' => ∃ v, e = .returned (.tuple #[v, .int .i64 (readP s i).2]) ∧ Kd.R (Kd.int .u8) 5 w' w.heap.size (fun _ => True) v (readP s i).1 ∧ Below w.heap.size w w' := by
  have H := Aside0.mk h
  have HAB := Aside0.mk (able_calls G g s i w h)
  rcases able_cases s i with c | ⟨c, j, hj, rfl, _, _⟩
  · have HR := Aside0.mk (show readP s i = ([], ableP s i) by unfold readP; rw [if_pos c])
    have c1 : (ableP s i != (0 : Int)) = true := by simpa using c
    have c2 : (ableP s i == (0 : Int)) = false := by simpa using c
    rw [HR.out]
    clear h c HR
    generalize ableP s i = er at *
    go_enter Try.func20, Try.ntmps20
    go_wp2_with (fail)
    refine (HAB.out).mono ?_
    rintro e w1 ⟨rfl, hd⟩
    have HD := Aside0.mk hd
    clear hd
    go_wp2
    go_ret2
    exact ⟨_, rfl, Kd.R_nil _ _ _ _ _, HD.out.below⟩
  · have HR := Aside0.mk (show readP s (j : Int) = ((fl s j).seen, 0) by unfold readP; rw [if_neg (by rw [c]; decide), Int.toNat_natCast])
    rw [c] at HAB
    rw [HR.out]
    obtain ⟨_, _, d, hA, hR⟩ := h
    obtain ⟨A, cp, hv, hcp, hC⟩ := (hR.2.2.2.2.2.2 j hj).1.slice
    have hsv := hA.sv hj
    rw [hv] at hsv
    have HC := Aside0.mk (And.intro hcp hC)
    have HL := Aside0.mk (hok.seen_le hj)
    clear hA hR hv hcp hC c HR hok
    go_enter Try.func20, Try.ntmps20
    go_wp2_with (fail)
    refine (HAB.out).mono ?_
    rintro e w1 ⟨rfl, hd⟩
    obtain ⟨nd, rfl⟩ := hd
    go_wp2_with (fail)
    refine (Clone_b A cp _ _ (Kd.C_drewN HC.out.2 nd) HC.out.1 (by have := HL.out; omega)).mono ?_
    rintro e w2 ⟨v, rfl, hR2, hB2⟩
    have HR2 := Aside0.mk hR2
    have HB2 := Aside0.mk hB2
    clear hR2 hB2
    go_wp2
    go_ret2
    exact ⟨_, rfl, Kd.R_lower HR2.out (Nat.le_refl _), below_step (pw_below_drewN (Below.refl _ _) nd) HB2.out⟩
set_option maxHeartbeats 2000000 in
theorem Start_calls (G : Nat → Prop) (g : Nat) (s : DS) (w : World) (h : IsD G w g s) : Calls Try.prog 53 #[.pointer (some ⟨g, 0, none⟩)] w fun e w' => e = .returned (.int .i64 (startP s).2) ∧ IsD G w' g (startP s).1 ∧ Wr g w w' := by
  have H := Aside0.mk h
  obtain ⟨_, _, d, hA, hR⟩ := h
  have HA := Aside0.mk hA
  have HR := Aside0.mk hR
  have hc27 := hA.c27
  have hc28 := hA.c28
  have hf28 := hA.frozen 28
  have hrm := hR.2.2.2.1
  clear hA hR
  by_cases c1 : s.room = 0
  · have HS := Aside0.mk (show startP s = (s, 6) by unfold startP; rw [if_pos c1])
    rw [HS.out]
    rw [hrm, c1] at hc27
    clear c1 hrm HS
    go_enter Try.func53, Try.ntmps53
    go_wp2
    go_ret
    exact ⟨rfl, H.out, Wr.refl _ _⟩
  · have HS := Aside0.mk (show startP s = ({ s with off := false }, 0) by unfold startP; rw [if_neg c1])
    rw [HS.out]
    rw [hrm] at hc27
    have d1 : (s.room == (0 : Int)) = false := by simpa using c1
    clear c1 hrm HS
    go_enter Try.func53, Try.ntmps53
    go_wp2
    go_ret
    refine ⟨rfl, ?_, (Wr.refl g w).set 28 _⟩
    have hw := (Wr.refl g w).set 28 (.bool false)
    refine ⟨fun b hb => by simpa using H.out.lt b hb, H.out.gg, _, HA.out.set28 false, ?_⟩
    have := HR.out.wr hw H.out.gg
    exact ⟨this.1, this.2.1, this.2.2.1, this.2.2.2.1, rfl, this.2.2.2.2.2.1, this.2.2.2.2.2.2⟩
set_option maxHeartbeats 2000000 in
theorem burn_calls (G : Nat → Prop) (g : Nat) (s : DS) (n : Nat) (w : World) (h : IsD G w g s) (hok : Ok s) (hn : n < 1000000000) : Calls Try.prog 83 #[.pointer (some ⟨g, 0, none⟩), .int .i64 (n : Int)] w fun e w' => e = .returned (.int .i64 ((burnN s n : Nat) : Int)) ∧ IsD G w' g (burnS s n) ∧ Wr g w w' := by
  have H := Aside0.mk h
  obtain ⟨_, _, d, hA, hR⟩ := h
  have HA := Aside0.mk hA
  have HR := Aside0.mk hR
  have hc0 := hA.c0
  have hc1 := hA.c1
  have hf1 := hA.frozen 1
  rw [hR.1] at hc0
  rw [hR.2.1] at hc1
  have HF := Aside0.mk hok.fuse
  clear hA hR hok
  by_cases c1 : s.set = true
  · rw [c1] at hc0
    have hf := HF.out c1
    by_cases c2 : (n : Int) < s.left
    · have HN := Aside0.mk (show burnN s n = n by unfold burnN; rw [if_neg (by omega)])
      have HS := Aside0.mk (show burnS s n = { s with left := s.left - n } by unfold burnS; rw [if_pos ⟨c1, c2⟩])
      rw [HN.out, HS.out]
      have hw : wrap64 (s.left - (n : Int)) = s.left - (n : Int) := by unfold wrap64; omega
      have d2 : decide ((n : Int) < s.left) = true := decide_eq_true c2
      clear c1 c2 hf hn
      go_enter Try.func83, Try.ntmps83
      go_wp2
      go_ret
      refine ⟨rfl, ?_, (Wr.refl g w).set 1 _⟩
      have hwr := (Wr.refl g w).set 1 (.int .i64 (s.left - (n : Int)))
      refine ⟨fun b hb => by simpa using H.out.lt b hb, H.out.gg, _, HA.out.set1 _, ?_⟩
      have := HR.out.wr hwr H.out.gg
      exact ⟨this.1, rfl, this.2.2.1, this.2.2.2.1, this.2.2.2.2.1, this.2.2.2.2.2.1, this.2.2.2.2.2.2⟩
    · obtain ⟨m, hm⟩ : ∃ m : Nat, s.left = (m : Int) := Int.eq_ofNat_of_zero_le (by omega)
      have HN := Aside0.mk (show burnN s n = m by unfold burnN; rw [if_pos ⟨c1, by omega⟩, hm, Int.toNat_natCast])
      have HS := Aside0.mk (show burnS s n = s by unfold burnS; rw [if_neg (by omega)])
      rw [HN.out, HS.out]
      rw [hm] at hc1
      have d2 : decide ((n : Int) < (m : Int)) = false := decide_eq_false (by omega)
      have d3 : decide (n < m) = false := decide_eq_false (by omega)
      clear c1 c2 hf hm
      go_enter Try.func83, Try.ntmps83
      go_wp2
      go_ret
      exact ⟨rfl, H.out, Wr.refl _ _⟩
  · have c1' : s.set = false := by simpa using c1
    have HN := Aside0.mk (show burnN s n = n by unfold burnN; rw [if_neg (fun h => c1 h.1)])
    have HS := Aside0.mk (show burnS s n = s by unfold burnS; rw [if_neg (fun h => c1 h.1)])
    rw [HN.out, HS.out]
    rw [c1'] at hc0
    clear c1 c1'
    go_enter Try.func83, Try.ntmps83
    go_wp2
    go_ret
    exact ⟨rfl, H.out, Wr.refl _ _⟩
end Go.Proofs.Ytehjbhnlbjbhfaa.Dk
-- DkC
namespace Go.Proofs.Ytehjbhnlbjbhfaa.Dk
open Go Go.RowKit Go.Proofs.YtehjbhnlbjbhfaaW.PrintWords Go.Proofs.YtehjbhnlbjbhfaaW.PrintLast Go.Proofs.YtehjbhnlbjbhfaaW.PrintMore
open Go.Proofs.Ytehjbhnlbjbhfaa.PDiskBegins
attribute [local go_sem] max2_int min2_int max_two min_two
set_option linter.unusedVariables false
section
variable {P : Program}
theorem run_loadVar_seg (w : World) (g o : Nat) (ty : TypeId) (cs : List Value) (d : TypeDesc) (hc : ∀ j v, cs[j]? = some v → w.cell? ⟨g, o + j, none⟩ = some v)
    (hu : P.underlying ty = some d) (hd : (match d with | .struct _ | .array _ _ => true | _ => false) = true) (hi : (P.info? ty).map (·.size) = some cs.length) :
    (loadVar ty ⟨g, o, none⟩).run P w = .ok (.agg cs.toArray) w := by
  have hl : (loadCells ⟨g, o, none⟩ cs.length).run P w = .ok cs.toArray w :=
    run_loadCells_list (P := P) w ⟨g, o, none⟩ cs (fun j v hv => by
      have hadd : (⟨g, o, none⟩ : Addr).add j = ⟨g, o + j, none⟩ := by unfold Addr.add; split <;> simp_all
      rw [hadd]
      exact hc j v hv)
  cases hq : P.info? ty with
  | none => simp [hq] at hi
  | some i =>
    have hs : i.size = cs.length := by simpa [hq] using hi
    have hagg : (isAgg ty).run P w = .ok true w := by
      unfold isAgg
      rw [Sem.run_bind, run_underlying hu w]
      cases d <;> simp_all
    simp [loadVar, Sem.run_bind, hagg, sizeOf, typeInfo, hq, hs, hl]
theorem wp_load_seg {o : Oper} {a : Act} {w : World} {K : Act → World → Prop} {Q : Exit → Act → World → Prop} (ty : TypeId) (x : Operand) (ho : o.op = .load ty x)
    (g f : Nat) (hx : a.eval x = .pointer (some ⟨g, f, none⟩)) (cs : List Value) (d : TypeDesc) (hc : ∀ j v, cs[j]? = some v → w.cell? ⟨g, f + j, none⟩ = some v)
    (hu : P.underlying ty = some d) (hd : (match d with | .struct _ | .array _ _ => true | _ => false) = true) (hi : (P.info? ty).map (·.size) = some cs.length)
    (h : K (a.put o.dst (.agg cs.toArray)) w) : o.wp P a w K Q := by
  unfold Oper.wp execOp
  simp only [ho, hx, Instr.loadAt, Instr.sureAddr, Sem.run_bind, Sem.run_pure, Result.andThen_ok, run_loadVar_seg w g f ty cs d hc hu hd hi]
  exact h
theorem wpList_load_seg {ops : Array Oper} {rest : List Oper} {o : Oper} {a : Act} {w : World} {Q : Exit → Act → World → Prop} (hgd : o.guard = none) (ty : TypeId) (x : Operand) (ho : o.op = .load ty x)
    (g f : Nat) (hx : a.eval x = .pointer (some ⟨g, f, none⟩)) (cs : List Value) (d : TypeDesc) (hc : ∀ j v, cs[j]? = some v → w.cell? ⟨g, f + j, none⟩ = some v)
    (hu : P.underlying ty = some d) (hd : (match d with | .struct _ | .array _ _ => true | _ => false) = true) (hi : (P.info? ty).map (·.size) = some cs.length)
    (h : wpList P ops Q rest (a.put o.dst (.agg cs.toArray)) w) : wpList P ops Q (o :: rest) a w :=
  wpList_plain hgd fun _ hK => wp_load_seg ty x ho g f hx cs d hc hu hd hi (hK _ _ h)
end
theorem files_cells {W : World} {g : Nat} {d : DV} (h : At W g d) : ∀ j v, (d.fs.flatMap FV.cells)[j]? = some v → W.cell? ⟨g, 3 + j, none⟩ = some v := by
  intro j v hj
  rw [h.cell]
  unfold DV.cells
  rw [List.getElem?_append_right (by simp), List.getElem?_append_left (by
    have := (List.getElem?_eq_some_iff.1 hj).1
    simpa using this)]
  simpa using hj
theorem files_len {d : DV} (h : d.fs.length = 8) : (d.fs.flatMap FV.cells).length = 24 := by
  obtain ⟨a0, a1, a2, a3, a4, a5, a6, a7, e⟩ := eight h
  rw [e]; rfl
theorem files_index {d : DV} (h : d.fs.length = 8) {k : Nat} (hk : k < 8) (W : World) : (Instr.index 62 (.agg (d.fs.flatMap FV.cells).toArray) (.int .i64 (k : Int))).run Try.prog W = .ok (.agg #[(d.f k).sv, (d.f k).lv, .bool (d.f k).cl]) W := by
  obtain ⟨a0, a1, a2, a3, a4, a5, a6, a7, e⟩ := eight h
  unfold DV.f
  rw [e]
  rcases below8 hk with rfl | rfl | rfl | rfl | rfl | rfl | rfl | rfl <;> kernel_rfl
def ps (s : DS) : Nat → Nat
  | 0 => 0
  | k + 1 => ps s k + (fl s k).seen.length
theorem ps_used (s : DS) (h : s.fs.length = 8) : ps s 8 = usedP s := by
  obtain ⟨a0, a1, a2, a3, a4, a5, a6, a7, e⟩ := eight h
  simp [ps, fl, usedP, e]; omega
theorem ps_le (s : DS) : ∀ (d k : Nat), k + d = 8 → ps s k ≤ ps s 8 := by
  intro d
  induction d with
  | zero => intro k h; rw [show k = 8 by omega]; exact Nat.le_refl _
  | succ d ih => intro k h; exact Nat.le_trans (Nat.le_add_right _ _) (ih (k + 1) (by omega))
theorem used_le {s : DS} (h : Ok s) : usedP s ≤ 33554432 := by
  have : ∀ l : List Fl, (∀ f ∈ l, f.seen.length ≤ 4194304) → (l.map fun f => f.seen.length).sum ≤ 4194304 * l.length := by
    intro l
    induction l with
    | nil => intro _; simp
    | cons a l ih =>
      intro hl
      have h1 := hl a (List.mem_cons_self ..)
      have h2 := ih (fun f hf => hl f (List.mem_cons_of_mem _ hf))
      rw [List.map_cons, List.sum_cons, List.length_cons]; omega
  have h2 := this s.fs h.told
  rw [h.len] at h2
  exact h2
set_option maxHeartbeats 8000000 in
set_option maxRecDepth 100000 in
theorem Used_calls (G : Nat → Prop) (g : Nat) (s : DS) (w : World) (h : IsD G w g s) (hok : Ok s) : Calls Try.prog 18 #[.pointer (some ⟨g, 0, none⟩)] w fun e w' => e = .returned (.int .i64 ((usedP s : Nat) : Int)) ∧ Below w.heap.size w w' := by
  have HU := Aside0.mk (ps_used s hok.len)
  have HPL := Aside0.mk (ps_le s)
  have HM := Aside0.mk (used_le hok)
  obtain ⟨_, _, d, hA, hR⟩ := h
  have HFC := Aside0.mk (files_cells hA)
  have HFL := Aside0.mk (files_len hA.1)
  have HIX := Aside0.mk (fun k hk => @files_index d hA.1 k hk)
  have HR := Aside0.mk hR
  have HB := Aside0.mk (Below.refl w.heap.size w)
  rw [← HU.out]
  clear hA hR hok
  generalize d.fs.flatMap FV.cells = X at HFC HFL HIX
  go_enter Try.func18, Try.ntmps18
  go_wp2_with (refine wpList_load_seg (P := Try.prog) rfl 62 (.tmp 11) rfl g 3 rfl X _ HFC.out Try.underlying62 rfl (by rw [HFL.out]; kernel_rfl) ?_)
  go_loopw [3, 13] (fun v3 v13 wr => ∃ k : Nat, k ≤ 8 ∧ v13 = .int .i64 (k : Int) ∧ v3 = .int .i64 ((ps s k : Nat) : Int) ∧ Aside0 (Below w.heap.size w wr)) (fun _ v13 _ => (8 - intOf v13).toNat)
  case atStart => exact ⟨0, by omega, rfl, rfl, HB⟩
  case round =>
    obtain ⟨k, hk, rfl, rfl, H⟩ := hrel
    clear HB
    have hq := HPL.out (8 - k) k (by omega)
    rw [HU.out] at hq
    have hq2 := Nat.le_trans hq HM.out
    clear hq
    by_cases hlt : k < 8
    · have hn := HPL.out (7 - k) (k + 1) (by omega)
      rw [HU.out] at hn
      have hn2 := Nat.le_trans hn HM.out
      clear hn
      have HP := Aside0.mk (show ps s (k + 1) = ps s k + (fl s k).seen.length from rfl)
      rw [HP.out] at hn2
      obtain ⟨A, c, hv, _, _⟩ := (HR.out.2.2.2.2.2.2 k hlt).1.slice
      obtain ⟨B, e, hx, _, _⟩ := (HR.out.2.2.2.2.2.2 k hlt).2.1.slice
      have ix := HIX.out k hlt
      rw [hv, hx] at ix
      clear hv hx
      generalize (fl s k).seen.length = n at *
      generalize (fl s k).lasts.length = m at *
      generalize (d.f k).cl = cl at *
      generalize ps s k = q at *
      go_wp2
      go_roundw
      case rel => exact ⟨k + 1, by omega, by go_num, by rw [HP.out]; go_num, ⟨below_alloc H.out _⟩⟩
      case measure => simp [intOf]; omega
    · obtain rfl : k = 8 := by omega
      rw [show ((8 : Nat) : Int) = 8 from rfl]
      clear hlt hk
      go_wp2
      go_ret
      exact ⟨rfl, H.out⟩
end Go.Proofs.Ytehjbhnlbjbhfaa.Dk
-- DkO
namespace Go.Proofs.Ytehjbhnlbjbhfaa.Dk
open Go Go.RowKit Go.Proofs.YtehjbhnlbjbhfaaW.PrintWords Go.Proofs.YtehjbhnlbjbhfaaW.PrintLast Go.Proofs.YtehjbhnlbjbhfaaW.PrintMore
set_option linter.unusedVariables false
def I64 (l : List Int) : Prop := ∀ x ∈ l, -9223372036854775808 ≤ x ∧ x ≤ 9223372036854775807
def Okk (s : DS) : Prop := Ok s ∧ I64 s.keep
theorem fl_setF (s : DS) (h : s.fs.length = 8) {i : Nat} (hi : i < 8) (f : Fl) (j : Nat) : fl (setF s i f) j = if i = j then f else fl s j := by
  unfold fl setF
  rw [List.getD_eq_getElem?_getD, List.getD_eq_getElem?_getD]
  simp only [List.getElem?_set]
  split
  · rename_i e; subst e; rw [if_pos (by omega)]; rfl
  · rfl
theorem Ok.setF {s : DS} (h : Ok s) {i : Nat} (hi : i < 8) {f : Fl} (h1 : f.cl = false → ∃ t, f.seen = f.lasts ++ t) (h2 : f.lasts.length ≤ 4194304) (h3 : f.seen.length ≤ 4194304) : Ok (setF s i f) := by
  refine ⟨by unfold Dk.setF; simp [h.len], ?_, ?_, ?_, h.fuse, h.room, h.keep⟩
  all_goals
    intro x hx
    rcases List.mem_or_eq_of_mem_set hx with hx | rfl
  · exact h.pre x hx
  · exact h1
  · exact h.big x hx
  · exact h2
  · exact h.told x hx
  · exact h3
theorem Ok.burn {s : DS} (h : Ok s) (n : Nat) : Ok (burnS s n) := by
  unfold burnS
  by_cases c : s.set = true ∧ (n : Int) < s.left
  · rw [if_pos c]
    exact ⟨h.len, h.pre, h.big, h.told, fun e => by
      have := h.fuse c.1
      show 1 ≤ s.left - (n : Int) ∧ s.left - (n : Int) ≤ 9223372036854775807
      omega, h.room, h.keep⟩
  · rw [if_neg c]; exact h
theorem burn_fs (s : DS) (n : Nat) : (burnS s n).fs = s.fs ∧ (burnS s n).keep = s.keep ∧ (burnS s n).room = s.room ∧ (burnS s n).off = s.off ∧ (burnS s n).set = s.set := by
  unfold burnS
  split <;> exact ⟨rfl, rfl, rfl, rfl, rfl⟩
theorem fl_burn (s : DS) (n i : Nat) : fl (burnS s n) i = fl s i := by unfold fl; rw [(burn_fs s n).1]
theorem Ok.doneC {s : DS} (h : Ok s) {i : Nat} (hi : i < 8) (n : Nat) : Ok (doneC i s n) := by
  unfold Dk.doneC
  split
  · exact h.setF hi (fun e => by cases e) (show (fl s i).lasts.length ≤ _ from h.big (fl s i) (h.fl_mem hi)) (by simp)
  · exact h
theorem Ok.doneY {s : DS} (h : Ok s) {i : Nat} (hi : i < 8) (n : Nat) : Ok (doneY i s n) := by
  unfold Dk.doneY
  split
  · exact h.setF hi (fun _ => ⟨[], (List.append_nil _).symm⟩) (show (fl s i).seen.length ≤ _ from h.told (fl s i) (h.fl_mem hi)) (show (fl s i).seen.length ≤ _ from h.told (fl s i) (h.fl_mem hi))
  · exact h
theorem Ok.doneA {s : DS} (h : Ok s) {i : Nat} (hi : i < 8) (b : List Int) (n : Nat) (hl : (fl s i).seen.length + b.length ≤ 4194304) : Ok (doneA i b s n) := by
  unfold Dk.doneA
  refine h.setF hi (fun e => ?_) (show (fl s i).lasts.length ≤ _ from h.big (fl s i) (h.fl_mem hi)) (by rw [List.length_append, List.length_take]; omega)
  obtain ⟨t, ht⟩ := h.pre _ (h.fl_mem hi) e
  exact ⟨t ++ b.take n, by rw [ht, List.append_assoc]⟩
theorem after_mem {keep : List Int} : ∀ (l : List Fl) (i : Nat) (f : Fl), f ∈ fallFs keep i l → ∃ f0 ∈ l, ∃ k, f = afterP f0 k := by
  intro l
  induction l with
  | nil => intro i f h; cases h
  | cons a l ih =>
    intro i f h
    rcases List.mem_cons.1 h with h | h
    · exact ⟨a, List.mem_cons_self .., _, h⟩
    · obtain ⟨f0, h1, k, h2⟩ := ih _ _ h
      exact ⟨f0, List.mem_cons_of_mem _ h1, k, h2⟩
theorem fall_len (keep : List Int) : ∀ (l : List Fl) (i : Nat), (fallFs keep i l).length = l.length := by
  intro l
  induction l with
  | nil => intro i; rfl
  | cons a l ih => intro i; simp [fallFs, ih]
theorem after_same (f : Fl) (k : Int) : (afterP f k).seen = (afterP f k).lasts ∧ (afterP f k).cl = false := by
  unfold afterP
  split
  · split <;> exact ⟨rfl, rfl⟩
  · exact ⟨rfl, rfl⟩
theorem after_len {f : Fl} (k : Int) (h1 : f.seen.length ≤ 4194304) (h2 : f.lasts.length ≤ 4194304) : (afterP f k).seen.length ≤ 4194304 := by
  unfold afterP
  split
  · split
    · show (f.seen.take _).length ≤ _; rw [List.length_take]; omega
    · show (f.seen.take _).length ≤ _; rw [List.length_take]; omega
  · exact h2
theorem Ok.fall {s : DS} (h : Ok s) (keep : List Int) : Ok (fallP s keep) := by
  refine ⟨by show (fallFs keep 0 s.fs).length = 8; rw [fall_len]; exact h.len, ?_, ?_, ?_, (fun e => by cases e), h.room, (show (0 : Nat) < 1000000000 by decide)⟩
  all_goals
    intro f hf
    obtain ⟨f0, h0, k, rfl⟩ := after_mem s.fs 0 f hf
  · intro _
    exact ⟨[], by rw [(after_same f0 k).1, List.append_nil]⟩
  · rw [← (after_same f0 k).1]; exact after_len k (h.told _ h0) (h.big _ h0)
  · exact after_len k (h.told _ h0) (h.big _ h0)
theorem Okk.fall {s : DS} (h : Okk s) (keep : List Int) : Okk (fallP s keep) := ⟨h.1.fall keep, fun x hx => by cases hx⟩
theorem act_okk {s : DS} (h : Okk s) (n : Nat) (done : DS → Nat → DS) (h1 : Ok (done (burnS s n) (burnN s n))) (h2 : (done (burnS s n) (burnN s n)).keep = s.keep) : Okk (actP s n done).1 := by
  have h3 : Okk (done (burnS s n) (burnN s n)) := ⟨h1, by rw [h2]; exact h.2⟩
  unfold actP
  split
  · exact h3.fall _
  · exact h3
theorem keepC (i : Nat) (s : DS) (n m : Nat) : (doneC i (burnS s n) m).keep = s.keep := by
  unfold doneC; split <;> exact (burn_fs s n).2.1
theorem keepY (i : Nat) (s : DS) (n m : Nat) : (doneY i (burnS s n) m).keep = s.keep := by
  unfold doneY; split <;> exact (burn_fs s n).2.1
theorem keepA (i : Nat) (b : List Int) (s : DS) (n m : Nat) : (doneA i b (burnS s n) m).keep = s.keep := (burn_fs s n).2.1
theorem Okk.clear {s : DS} (h : Okk s) (i : Int) : Okk (clearP s i).1 := by
  unfold clearP
  by_cases c : ableP s i ≠ 0
  · rw [if_pos c]; exact h
  · rw [if_neg c]
    rcases able_cases s i with d | ⟨_, j, hj, rfl, _, _⟩
    · exact absurd d c
    · rw [Int.toNat_natCast]; exact act_okk h 1 _ ((h.1.burn 1).doneC hj _) (keepC _ _ _ _)
theorem Okk.sync {s : DS} (h : Okk s) (i : Int) : Okk (syncP s i).1 := by
  unfold syncP
  by_cases c : ableP s i ≠ 0
  · rw [if_pos c]; exact h
  · rw [if_neg c]
    rcases able_cases s i with d | ⟨_, j, hj, rfl, _, _⟩
    · exact absurd d c
    · rw [Int.toNat_natCast]; exact act_okk h 1 _ ((h.1.burn 1).doneY hj _) (keepY _ _ _ _)
theorem fits {s : DS} (h : Ok s) {j : Nat} (hj : j < 8) (b : List Int) (c : ¬ s.room < (usedP s : Int) + (b.length : Int)) : (fl s j).seen.length + b.length ≤ 4194304 := by
  have h1 := sum_mem (s.fs.map fun f => f.seen.length) (fl s j).seen.length (List.mem_map.2 ⟨_, h.fl_mem hj, rfl⟩)
  have h2 := h.room
  unfold usedP at c
  omega
theorem Okk.append {s : DS} (h : Okk s) (i : Int) (b : List Int) : Okk (appendP s i b).1 := by
  unfold appendP
  by_cases c : ableP s i ≠ 0
  · rw [if_pos c]; exact h
  · rw [if_neg c]
    by_cases c2 : s.room < (usedP s : Int) + (b.length : Int)
    · rw [if_pos c2]; exact h
    · rw [if_neg c2]
      rcases able_cases s i with d | ⟨_, j, hj, rfl, _, _⟩
      · exact absurd d c
      · rw [Int.toNat_natCast]; exact act_okk h b.length _ ((h.1.burn _).doneA hj b _ (by rw [fl_burn]; exact fits h.1 hj b c2)) (keepA _ _ _ _ _)
theorem Okk.crash {s : DS} (h : Okk s) (keep : List Int) : Okk (crashP s keep).1 := by
  unfold crashP
  split
  · exact h
  · exact h.fall keep
theorem Okk.start {s : DS} (h : Okk s) : Okk (startP s).1 := by
  unfold startP
  split
  · exact h
  · exact ⟨⟨h.1.len, h.1.pre, h.1.big, h.1.told, h.1.fuse, h.1.room, h.1.keep⟩, h.2⟩
theorem Okk.arm {s : DS} (h : Okk s) (n : Int) (keep : List Int) (hn : n ≤ 9223372036854775807) (hk : I64 keep) (hl : keep.length < 1000000000) : Okk (armP s n keep).1 := by
  unfold armP
  split
  · exact h
  · split
    · exact h
    · exact ⟨⟨h.1.len, h.1.pre, h.1.big, h.1.told, fun _ => ⟨by show 1 ≤ n; omega, hn⟩, h.1.room, hl⟩, hk⟩
theorem newP_okk (room : Int) (h : 0 ≤ room ∧ room ≤ 4194304) : Okk (newP room) := by
  refine ⟨⟨rfl, ?_, ?_, ?_, (fun e => by cases e), h, (show (0 : Nat) < 1000000000 by decide)⟩, fun x hx => by cases hx⟩
  all_goals
    intro f hf
    have : f = nf := List.eq_of_mem_replicate hf
    subst this
  · intro _; exact ⟨[], rfl⟩
  · decide
  · decide
end Go.Proofs.Ytehjbhnlbjbhfaa.Dk
-- TpA
namespace Go.Proofs.Ytehjbhnlbjbhfaa.Tp
open Go Go.RowKit Go.Proofs.YtehjbhnlbjbhfaaW.PrintWords Go.Proofs.YtehjbhnlbjbhfaaW.PrintLast Go.Proofs.YtehjbhnlbjbhfaaW.PrintMore Go.Proofs.Ytehjbhnlbjbhfaa.Wire Go.Proofs.Ytehjbhnlbjbhfaa.Wk Go.Proofs.Ytehjbhnlbjbhfaa.Dk
set_option linter.unusedVariables false
def withinP (s : List Int) (lo hi : Int) (p : Nat) (er : Int) : Int × Nat × Int :=
  if er ≠ 0 then (0, p, er)
  else if (num (s.drop p)).2.2 ≠ 0 then (0, p, (num (s.drop p)).2.2)
  else if 4611686018427387904 < (num (s.drop p)).1 ∨ ((num (s.drop p)).1 : Int) < lo ∨ hi < ((num (s.drop p)).1 : Int) then (0, p, 5)
  else (((num (s.drop p)).1 : Int), p + (num (s.drop p)).2.1, 0)
def bytesE (s : List Int) (most : Int) (p : Nat) (er : Int) : List Int × Nat × Int := if er ≠ 0 then ([], p, er) else bytesP s p most
structure Reel where
  gen : Int
  base : List Int
  l : List (List Int)
structure TS where
  r : Reel
  file : Nat
  kept : Nat
def noReel : Reel := ⟨0, [], []⟩
def headR (s : List Int) (rest : List (List Int)) : Option Reel :=
  let a := withinP s 1 1099511627776 0 0
  let b := withinP s 0 1099511627776 a.2.1 a.2.2
  let c := bytesE s 8176 b.2.1 b.2.2
  if c.2.2 ≠ 0 ∨ c.2.1 < s.length ∨ (rest.length : Int) < b.1 then none else some ⟨a.1, c.1, rest⟩
def readT (b : List Int) : Reel × Bool :=
  match (allP b).1 with
  | [] => (noReel, decide (0 < b.length))
  | s :: rest => match headR s rest with
    | none => (noReel, true)
    | some r => (r, decide ((allP b).2 < b.length))
def sealE (d : List Int) : List Int × Int := if 8192 < d.length then ([], 4) else (sealP d, 0)
def headE (gen many : Int) (base : List Int) : List Int × Int := sealE (encs [gen, many] ++ recP base)
def tooLong (l : List (List Int)) : Bool := l.any fun d => decide (8192 < d.length)
def saveW (t : TS) (s : DS) (base : List Int) (l : List (List Int)) (all : List Int) : TS × DS × Int :=
  let f : Int := 1 - (t.file : Int)
  let c := clearP s f
  if c.2 ≠ 0 then (t, c.1, c.2)
  else let a := appendP c.1 f all
    if a.2 ≠ 0 then (t, a.1, a.2)
    else let y := syncP a.1 f
      if y.2 ≠ 0 then (t, y.1, y.2) else (⟨⟨t.r.gen + 1, base, l⟩, 1 - t.file, l.length⟩, y.1, 0)
def saveP (t : TS) (s : DS) (base : List Int) (l : List (List Int)) : TS × DS × Int :=
  if 1099511627776 ≤ t.r.gen then (t, s, 5)
  else if 8176 < base.length then (t, s, 4)
  else if (headE (t.r.gen + 1) (l.length : Int) base).2 ≠ 0 then (t, s, (headE (t.r.gen + 1) (l.length : Int) base).2)
  else if tooLong l = true then (t, s, 4)
  else saveW t s base l ((headE (t.r.gen + 1) (l.length : Int) base).1 ++ l.flatMap sealP)
def putP (t : TS) (s : DS) (d : List Int) : TS × DS × Int :=
  if 8192 < d.length then (t, s, 4)
  else let a := appendP s (t.file : Int) (sealP d)
    if a.2 ≠ 0 then (t, a.1, a.2) else (⟨⟨t.r.gen, t.r.base, t.r.l ++ [d]⟩, t.file, t.kept⟩, a.1, 0)
def syncT (t : TS) (s : DS) : TS × DS × Int :=
  let y := syncP s (t.file : Int)
  if y.2 ≠ 0 then (t, y.1, y.2) else (⟨t.r, t.file, t.r.l.length⟩, y.1, 0)
def pick (s : DS) (f : Nat) (was : TS × Bool) : TS × Bool :=
  let q := readT (fl s f).seen
  if was.1.r.gen < q.1.gen then (⟨q.1, f, 0⟩, q.2) else was
def picked (s : DS) : TS × Bool := pick s 1 (pick s 0 (⟨noReel, 1, 0⟩, false))
def openT (s : DS) : Option TS × DS × Int :=
  if ableP s 0 ≠ 0 then (none, s, ableP s 0)
  else
    let t : TS := ⟨(picked s).1.r, (picked s).1.file, (picked s).1.r.l.length⟩
    if t.r.gen = 0 ∨ (picked s).2 = true then
      (let w := saveP t s t.r.base t.r.l
       if w.2.2 ≠ 0 then (none, w.2.1, w.2.2) else (some w.1, w.2.1, 0))
    else (some t, s, 0)
end Go.Proofs.Ytehjbhnlbjbhfaa.Tp
-- DkD
namespace Go.Proofs.Ytehjbhnlbjbhfaa.Dk
open Go Go.RowKit Go.Proofs.YtehjbhnlbjbhfaaW.PrintWords Go.Proofs.YtehjbhnlbjbhfaaW.PrintLast Go.Proofs.YtehjbhnlbjbhfaaW.PrintMore
open Go.Proofs.Ytehjbhnlbjbhfaa.PDiskBegins
attribute [local go_sem] max2_int min2_int max_two min_two
set_option linter.unusedVariables false
def afterB (f : Fl) (k : Int) : List Int := if 0 ≤ k then (if f.cl = true then f.seen.take k.toNat else f.seen.take (f.lasts.length + k.toNat)) else f.lasts
theorem after_eq (f : Fl) (k : Int) : afterP f k = ⟨afterB f k, afterB f k, false⟩ := by
  unfold afterP afterB
  by_cases c : 0 ≤ k
  · rw [if_pos c, if_pos c]; split <;> rfl
  · rw [if_neg c, if_neg c]
set_option maxHeartbeats 8000000 in
set_option maxRecDepth 100000 in
theorem after_calls (A0 : Option Addr) (c0 : Nat) (A1 : Option Addr) (c1 : Nat) (f : Fl) (k : Int) (w : World) (hk : -9223372036854775808 ≤ k ∧ k ≤ 9223372036854775807)
    (h0 : (Kd.int .u8).C w A0 f.seen.length f.seen) (hc0 : f.seen.length ≤ c0) (h1 : (Kd.int .u8).C w A1 f.lasts.length f.lasts) (hc1 : f.lasts.length ≤ c1)
    (hp : f.cl = false → f.lasts.length ≤ f.seen.length) (hs : f.seen.length ≤ 4194304) (hl : f.lasts.length ≤ 4194304) :
    Calls Try.prog 88 #[.agg #[.slice A0 f.seen.length c0, .slice A1 f.lasts.length c1, .bool f.cl], .int .i64 k] w fun e w' => ∃ v, e = .returned (.agg #[v, v, .bool false]) ∧ Kd.R (Kd.int .u8) 5 w' w.heap.size (fun _ => True) v (afterB f k) ∧ Below w.heap.size w w' := by
  have H0 := Aside0.mk h0
  have HC0 := Aside0.mk hc0
  have H1 := Aside0.mk h1
  have HC1 := Aside0.mk hc1
  have HBX := fun (W : World) (h : W = w.alloc (Obj.cells #[Value.slice A0 f.seen.length c0, Value.slice A1 f.lasts.length c1, Value.bool f.cl] 61)) => h
  obtain ⟨i0, hi0, _, hz1, _⟩ := info_parts info5
  have HINF := Aside0.mk hi0
  clear hi0 hz1 HBX
  obtain ⟨seen, lasts, cl⟩ := f
  simp only at *
  by_cases ck : 0 ≤ k
  · have d0 : decide (0 ≤ k) = true := decide_eq_true ck
    obtain ⟨kk, rfl⟩ : ∃ kk : Nat, k = (kk : Int) := Int.eq_ofNat_of_zero_le ck
    have key : ∀ p : Nat, p ≤ seen.length → afterB ⟨seen, lasts, cl⟩ (kk : Int) = seen.take p → ∃ X, Aside0 (afterB ⟨seen, lasts, cl⟩ (kk : Int) = X) ∧ Aside0 ((Kd.int .u8).C w A0 X.length X) ∧ Aside0 (X.length ≤ c0) ∧ Aside0 (X.length < 140737488355328) ∧ X.length = p ∧ ∀ W : World, (Instr.slice 32 (.slice A0 seen.length c0) none (some (.int .i64 (p : Int))) none).run Try.prog W = .ok (.slice A0 X.length c0) W := by
      intro p hple he
      have hx : (seen.take p).length = p := by rw [List.length_take]; exact Nat.min_eq_left hple
      refine ⟨seen.take p, ⟨he⟩, ⟨Kd.C_take h0 hple⟩, ⟨by omega⟩, ⟨by omega⟩, hx, fun W => ?_⟩
      rw [hx]
      have HCUT := cut_to (P := Try.prog) 32 5 .i64 Try.underlying32 HINF.out A0 seen.length c0 (p : Int) (by omega) (by omega) hc0
      rw [Int.toNat_natCast] at HCUT
      exact HCUT W
    cases cl with
    | true =>
      have hb : afterB ⟨seen, lasts, true⟩ (kk : Int) = seen.take kk := by unfold afterB; rw [if_pos ck]; rfl
      by_cases hlt : (seen.length : Int) < (kk : Int)
      · obtain ⟨X, HB, HCX, HXC, HLL, hxl, HCUT⟩ := key seen.length (Nat.le_refl _) (by rw [hb, List.take_of_length_le (by omega), List.take_of_length_le (Nat.le_refl _)])
        rw [HB.out]
        have hlt2 : seen.length < kk := by omega
        have hd1 : decide ((seen.length : Int) < (kk : Int)) = true := decide_eq_true hlt
        clear hxl hp ck hk hl hb key HB h0 h1 hc0 hc1
        go_enter Try.func88, Try.ntmps88
        go_wp2_with (fail)
        refine (Clone_b A0 c0 X _ (Kd.C_alloc (Kd.C_alloc HCX.out _) _) HXC.out HLL.out).mono ?_
        rintro e w1 ⟨v, rfl, hR, hB⟩
        obtain ⟨A2, c2, rfl⟩ := Kd.R_slice hR
        have hz : ((w.alloc (Obj.cells #[Value.slice A0 seen.length c0, Value.slice A1 lasts.length c1, Value.bool true] 61)).alloc (Obj.cells #[Value.slice none 0 0, Value.slice none 0 0, Value.bool false] 61)).heap.size = w.heap.size + 2 := by simp
        have hb0 := blk_below (blk_new (w.alloc (Obj.cells #[Value.slice A0 seen.length c0, Value.slice A1 lasts.length c1, Value.bool true] 61)) (.cells #[Value.slice none 0 0, Value.slice none 0 0, Value.bool false] 61)) hB
        rw [show (w.alloc (Obj.cells #[Value.slice A0 seen.length c0, Value.slice A1 lasts.length c1, Value.bool true] 61)).heap.size = w.heap.size + 1 by simp] at hb0
        have HB0 := Aside0.mk hb0
        have HW := Aside0.mk (below_step (below_alloc (below_alloc (Below.refl w.heap.size w) _) _) hB)
        rw [hz] at hR
        have HR := Aside0.mk hR
        have hc_0 := (blk_cell hb0 0).trans rfl
        have hc_1 := (blk_cell hb0 1).trans rfl
        have hc_2 := (blk_cell hb0 2).trans rfl
        have hf_0 := blk_frozen hb0 0
        have hf_1 := blk_frozen hb0 1
        have hf_2 := blk_frozen hb0 2
        clear hz hR hB hb0
        go_wp2
        refine bodyPost_ret (results_cell_row rfl _ _ (w.heap.size + 1) 61 #[.slice A2 X.length c2, .slice A2 X.length c2, .bool false] (0, 0) _ rfl (by refine blk_put (cs := #[.slice A2 X.length c2, .slice A2 X.length c2, .bool false]) ?_ 2 _ rfl; refine blk_put (cs := #[.slice A2 X.length c2, .slice none 0 0, .bool false]) ?_ 1 _ rfl; refine blk_put (cs := #[.slice none 0 0, .slice none 0 0, .bool false]) ?_ 0 _ rfl; exact HB0.out) Try.underlying61 rfl (by kernel_rfl)) rfl ?_
        have HN : Aside0 (∀ b, w.heap.size + 2 ≤ b → b ≠ w.heap.size + 1) := ⟨fun b hb => by omega⟩
        have HR3 := Kd.R_mono (Kd.R_bound HR.out) (ok' := fun b => b ≠ w.heap.size + 1) (fun b hb => HN.out b hb.2.1)
        exact ⟨_, rfl, Kd.R_mono (Kd.R_lower (Kd.R_far (p := ⟨w.heap.size + 1, 2, none⟩) (Kd.R_far (p := ⟨w.heap.size + 1, 1, none⟩) (Kd.R_far (p := ⟨w.heap.size + 1, 0, none⟩) HR3 (fun b hb => hb) _) (fun b hb => hb) _) (fun b hb => hb) _) (Nat.le_add_right _ _)) (fun _ _ => trivial), below_set (below_set (below_set HW.out (Nat.le_add_right _ _)) (Nat.le_add_right _ _)) (Nat.le_add_right _ _)⟩
      · obtain ⟨X, HB, HCX, HXC, HLL, hxl, HCUT⟩ := key kk (by omega) hb
        rw [HB.out]
        have hlt2 : ¬ seen.length < kk := by omega
        have hd1 : decide ((seen.length : Int) < (kk : Int)) = false := decide_eq_false hlt
        clear hxl hp ck hk hl hb key HB h0 h1 hc0 hc1
        go_enter Try.func88, Try.ntmps88
        go_wp2_with (fail)
        refine (Clone_b A0 c0 X _ (Kd.C_alloc (Kd.C_alloc HCX.out _) _) HXC.out HLL.out).mono ?_
        rintro e w1 ⟨v, rfl, hR, hB⟩
        obtain ⟨A2, c2, rfl⟩ := Kd.R_slice hR
        have hz : ((w.alloc (Obj.cells #[Value.slice A0 seen.length c0, Value.slice A1 lasts.length c1, Value.bool true] 61)).alloc (Obj.cells #[Value.slice none 0 0, Value.slice none 0 0, Value.bool false] 61)).heap.size = w.heap.size + 2 := by simp
        have hb0 := blk_below (blk_new (w.alloc (Obj.cells #[Value.slice A0 seen.length c0, Value.slice A1 lasts.length c1, Value.bool true] 61)) (.cells #[Value.slice none 0 0, Value.slice none 0 0, Value.bool false] 61)) hB
        rw [show (w.alloc (Obj.cells #[Value.slice A0 seen.length c0, Value.slice A1 lasts.length c1, Value.bool true] 61)).heap.size = w.heap.size + 1 by simp] at hb0
        have HB0 := Aside0.mk hb0
        have HW := Aside0.mk (below_step (below_alloc (below_alloc (Below.refl w.heap.size w) _) _) hB)
        rw [hz] at hR
        have HR := Aside0.mk hR
        have hc_0 := (blk_cell hb0 0).trans rfl
        have hc_1 := (blk_cell hb0 1).trans rfl
        have hc_2 := (blk_cell hb0 2).trans rfl
        have hf_0 := blk_frozen hb0 0
        have hf_1 := blk_frozen hb0 1
        have hf_2 := blk_frozen hb0 2
        clear hz hR hB hb0
        go_wp2
        refine bodyPost_ret (results_cell_row rfl _ _ (w.heap.size + 1) 61 #[.slice A2 X.length c2, .slice A2 X.length c2, .bool false] (0, 0) _ rfl (by refine blk_put (cs := #[.slice A2 X.length c2, .slice A2 X.length c2, .bool false]) ?_ 2 _ rfl; refine blk_put (cs := #[.slice A2 X.length c2, .slice none 0 0, .bool false]) ?_ 1 _ rfl; refine blk_put (cs := #[.slice none 0 0, .slice none 0 0, .bool false]) ?_ 0 _ rfl; exact HB0.out) Try.underlying61 rfl (by kernel_rfl)) rfl ?_
        have HN : Aside0 (∀ b, w.heap.size + 2 ≤ b → b ≠ w.heap.size + 1) := ⟨fun b hb => by omega⟩
        have HR3 := Kd.R_mono (Kd.R_bound HR.out) (ok' := fun b => b ≠ w.heap.size + 1) (fun b hb => HN.out b hb.2.1)
        exact ⟨_, rfl, Kd.R_mono (Kd.R_lower (Kd.R_far (p := ⟨w.heap.size + 1, 2, none⟩) (Kd.R_far (p := ⟨w.heap.size + 1, 1, none⟩) (Kd.R_far (p := ⟨w.heap.size + 1, 0, none⟩) HR3 (fun b hb => hb) _) (fun b hb => hb) _) (fun b hb => hb) _) (Nat.le_add_right _ _)) (fun _ _ => trivial), below_set (below_set (below_set HW.out (Nat.le_add_right _ _)) (Nat.le_add_right _ _)) (Nat.le_add_right _ _)⟩
    | false =>
      have hb : afterB ⟨seen, lasts, false⟩ (kk : Int) = seen.take (lasts.length + kk) := by unfold afterB; rw [if_pos ck]; rfl
      have hpl := hp rfl
      obtain ⟨rr, hrr⟩ : ∃ rr : Nat, seen.length - lasts.length = rr := ⟨_, rfl⟩
      have hw1 : wrap64 ((seen.length : Int) - (lasts.length : Int)) = (rr : Int) := by unfold wrap64; omega
      by_cases hlt : (rr : Int) < (kk : Int)
      · obtain ⟨X, HB, HCX, HXC, HLL, hxl, HCUT⟩ := key seen.length (Nat.le_refl _) (by rw [hb, List.take_of_length_le (by omega), List.take_of_length_le (Nat.le_refl _)])
        have hsum : wrap64 ((lasts.length : Int) + (rr : Int)) = (seen.length : Int) := by clear hw1; unfold wrap64; omega
        rw [HB.out]
        have hlt2 : rr < kk := by omega
        have hd1 : decide ((rr : Int) < (kk : Int)) = true := decide_eq_true hlt
        clear hxl hp ck hk hs hl hb key HB h0 h1 hc0 hc1 hpl hrr
        go_enter Try.func88, Try.ntmps88
        go_wp2_with (fail)
        refine (Clone_b A0 c0 X _ (Kd.C_alloc (Kd.C_alloc HCX.out _) _) HXC.out HLL.out).mono ?_
        rintro e w1 ⟨v, rfl, hR, hB⟩
        obtain ⟨A2, c2, rfl⟩ := Kd.R_slice hR
        have hz : ((w.alloc (Obj.cells #[Value.slice A0 seen.length c0, Value.slice A1 lasts.length c1, Value.bool false] 61)).alloc (Obj.cells #[Value.slice none 0 0, Value.slice none 0 0, Value.bool false] 61)).heap.size = w.heap.size + 2 := by simp
        have hb0 := blk_below (blk_new (w.alloc (Obj.cells #[Value.slice A0 seen.length c0, Value.slice A1 lasts.length c1, Value.bool false] 61)) (.cells #[Value.slice none 0 0, Value.slice none 0 0, Value.bool false] 61)) hB
        rw [show (w.alloc (Obj.cells #[Value.slice A0 seen.length c0, Value.slice A1 lasts.length c1, Value.bool false] 61)).heap.size = w.heap.size + 1 by simp] at hb0
        have HB0 := Aside0.mk hb0
        have HW := Aside0.mk (below_step (below_alloc (below_alloc (Below.refl w.heap.size w) _) _) hB)
        rw [hz] at hR
        have HR := Aside0.mk hR
        have hc_0 := (blk_cell hb0 0).trans rfl
        have hc_1 := (blk_cell hb0 1).trans rfl
        have hc_2 := (blk_cell hb0 2).trans rfl
        have hf_0 := blk_frozen hb0 0
        have hf_1 := blk_frozen hb0 1
        have hf_2 := blk_frozen hb0 2
        clear hz hR hB hb0
        go_wp2
        refine bodyPost_ret (results_cell_row rfl _ _ (w.heap.size + 1) 61 #[.slice A2 X.length c2, .slice A2 X.length c2, .bool false] (0, 0) _ rfl (by refine blk_put (cs := #[.slice A2 X.length c2, .slice A2 X.length c2, .bool false]) ?_ 2 _ rfl; refine blk_put (cs := #[.slice A2 X.length c2, .slice none 0 0, .bool false]) ?_ 1 _ rfl; refine blk_put (cs := #[.slice none 0 0, .slice none 0 0, .bool false]) ?_ 0 _ rfl; exact HB0.out) Try.underlying61 rfl (by kernel_rfl)) rfl ?_
        have HN : Aside0 (∀ b, w.heap.size + 2 ≤ b → b ≠ w.heap.size + 1) := ⟨fun b hb => by omega⟩
        have HR3 := Kd.R_mono (Kd.R_bound HR.out) (ok' := fun b => b ≠ w.heap.size + 1) (fun b hb => HN.out b hb.2.1)
        exact ⟨_, rfl, Kd.R_mono (Kd.R_lower (Kd.R_far (p := ⟨w.heap.size + 1, 2, none⟩) (Kd.R_far (p := ⟨w.heap.size + 1, 1, none⟩) (Kd.R_far (p := ⟨w.heap.size + 1, 0, none⟩) HR3 (fun b hb => hb) _) (fun b hb => hb) _) (fun b hb => hb) _) (Nat.le_add_right _ _)) (fun _ _ => trivial), below_set (below_set (below_set HW.out (Nat.le_add_right _ _)) (Nat.le_add_right _ _)) (Nat.le_add_right _ _)⟩
      · obtain ⟨z, hz⟩ : ∃ z : Nat, lasts.length + kk = z := ⟨_, rfl⟩
        obtain ⟨X, HB, HCX, HXC, HLL, hxl, HCUT⟩ := key z (by omega) (by rw [hb, hz])
        have hsum : wrap64 ((lasts.length : Int) + (kk : Int)) = (z : Int) := by clear hw1; unfold wrap64; omega
        rw [HB.out]
        have hlt2 : ¬ rr < kk := by omega
        have hd1 : decide ((rr : Int) < (kk : Int)) = false := decide_eq_false hlt
        clear hxl hp ck hk hs hl hb key HB h0 h1 hc0 hc1 hpl hrr hz
        go_enter Try.func88, Try.ntmps88
        go_wp2_with (fail)
        refine (Clone_b A0 c0 X _ (Kd.C_alloc (Kd.C_alloc HCX.out _) _) HXC.out HLL.out).mono ?_
        rintro e w1 ⟨v, rfl, hR, hB⟩
        obtain ⟨A2, c2, rfl⟩ := Kd.R_slice hR
        have hz : ((w.alloc (Obj.cells #[Value.slice A0 seen.length c0, Value.slice A1 lasts.length c1, Value.bool false] 61)).alloc (Obj.cells #[Value.slice none 0 0, Value.slice none 0 0, Value.bool false] 61)).heap.size = w.heap.size + 2 := by simp
        have hb0 := blk_below (blk_new (w.alloc (Obj.cells #[Value.slice A0 seen.length c0, Value.slice A1 lasts.length c1, Value.bool false] 61)) (.cells #[Value.slice none 0 0, Value.slice none 0 0, Value.bool false] 61)) hB
        rw [show (w.alloc (Obj.cells #[Value.slice A0 seen.length c0, Value.slice A1 lasts.length c1, Value.bool false] 61)).heap.size = w.heap.size + 1 by simp] at hb0
        have HB0 := Aside0.mk hb0
        have HW := Aside0.mk (below_step (below_alloc (below_alloc (Below.refl w.heap.size w) _) _) hB)
        rw [hz] at hR
        have HR := Aside0.mk hR
        have hc_0 := (blk_cell hb0 0).trans rfl
        have hc_1 := (blk_cell hb0 1).trans rfl
        have hc_2 := (blk_cell hb0 2).trans rfl
        have hf_0 := blk_frozen hb0 0
        have hf_1 := blk_frozen hb0 1
        have hf_2 := blk_frozen hb0 2
        clear hz hR hB hb0
        go_wp2
        refine bodyPost_ret (results_cell_row rfl _ _ (w.heap.size + 1) 61 #[.slice A2 X.length c2, .slice A2 X.length c2, .bool false] (0, 0) _ rfl (by refine blk_put (cs := #[.slice A2 X.length c2, .slice A2 X.length c2, .bool false]) ?_ 2 _ rfl; refine blk_put (cs := #[.slice A2 X.length c2, .slice none 0 0, .bool false]) ?_ 1 _ rfl; refine blk_put (cs := #[.slice none 0 0, .slice none 0 0, .bool false]) ?_ 0 _ rfl; exact HB0.out) Try.underlying61 rfl (by kernel_rfl)) rfl ?_
        have HN : Aside0 (∀ b, w.heap.size + 2 ≤ b → b ≠ w.heap.size + 1) := ⟨fun b hb => by omega⟩
        have HR3 := Kd.R_mono (Kd.R_bound HR.out) (ok' := fun b => b ≠ w.heap.size + 1) (fun b hb => HN.out b hb.2.1)
        exact ⟨_, rfl, Kd.R_mono (Kd.R_lower (Kd.R_far (p := ⟨w.heap.size + 1, 2, none⟩) (Kd.R_far (p := ⟨w.heap.size + 1, 1, none⟩) (Kd.R_far (p := ⟨w.heap.size + 1, 0, none⟩) HR3 (fun b hb => hb) _) (fun b hb => hb) _) (fun b hb => hb) _) (Nat.le_add_right _ _)) (fun _ _ => trivial), below_set (below_set (below_set HW.out (Nat.le_add_right _ _)) (Nat.le_add_right _ _)) (Nat.le_add_right _ _)⟩
  · have d0 : decide (0 ≤ k) = false := decide_eq_false ck
    have HB := Aside0.mk (show afterB ⟨seen, lasts, cl⟩ k = lasts by unfold afterB; rw [if_neg ck])
    rw [HB.out]
    clear hp ck
    have HLL := Aside0.mk (show lasts.length < 140737488355328 by omega)
    go_enter Try.func88, Try.ntmps88
    go_wp2_with (fail)
    refine (Clone_b A1 c1 lasts _ (Kd.C_alloc (Kd.C_alloc H1.out _) _) HC1.out HLL.out).mono ?_
    rintro e w1 ⟨v, rfl, hR, hB⟩
    obtain ⟨A2, c2, rfl⟩ := Kd.R_slice hR
    have hz : ((w.alloc (Obj.cells #[Value.slice A0 seen.length c0, Value.slice A1 lasts.length c1, Value.bool cl] 61)).alloc (Obj.cells #[Value.slice none 0 0, Value.slice none 0 0, Value.bool false] 61)).heap.size = w.heap.size + 2 := by simp
    have hb0 := blk_below (blk_new (w.alloc (Obj.cells #[Value.slice A0 seen.length c0, Value.slice A1 lasts.length c1, Value.bool cl] 61)) (.cells #[Value.slice none 0 0, Value.slice none 0 0, Value.bool false] 61)) hB
    rw [show (w.alloc (Obj.cells #[Value.slice A0 seen.length c0, Value.slice A1 lasts.length c1, Value.bool cl] 61)).heap.size = w.heap.size + 1 by simp] at hb0
    have HB0 := Aside0.mk hb0
    have HW := Aside0.mk (below_step (below_alloc (below_alloc (Below.refl w.heap.size w) _) _) hB)
    rw [hz] at hR
    have HR := Aside0.mk hR
    have hc_0 := (blk_cell hb0 0).trans rfl
    have hc_1 := (blk_cell hb0 1).trans rfl
    have hc_2 := (blk_cell hb0 2).trans rfl
    have hf_0 := blk_frozen hb0 0
    have hf_1 := blk_frozen hb0 1
    have hf_2 := blk_frozen hb0 2
    clear hz hR hB hb0
    go_wp2
    refine bodyPost_ret (results_cell_row rfl _ _ (w.heap.size + 1) 61 #[.slice A2 lasts.length c2, .slice A2 lasts.length c2, .bool false] (0, 0) _ rfl (by refine blk_put (cs := #[.slice A2 lasts.length c2, .slice A2 lasts.length c2, .bool false]) ?_ 2 _ rfl; refine blk_put (cs := #[.slice A2 lasts.length c2, .slice none 0 0, .bool false]) ?_ 1 _ rfl; refine blk_put (cs := #[.slice none 0 0, .slice none 0 0, .bool false]) ?_ 0 _ rfl; exact HB0.out) Try.underlying61 rfl (by kernel_rfl)) rfl ?_
    have HN : Aside0 (∀ b, w.heap.size + 2 ≤ b → b ≠ w.heap.size + 1) := ⟨fun b hb => by omega⟩
    have HR3 := Kd.R_mono (Kd.R_bound HR.out) (ok' := fun b => b ≠ w.heap.size + 1) (fun b hb => HN.out b hb.2.1)
    exact ⟨_, rfl, Kd.R_mono (Kd.R_lower (Kd.R_far (p := ⟨w.heap.size + 1, 2, none⟩) (Kd.R_far (p := ⟨w.heap.size + 1, 1, none⟩) (Kd.R_far (p := ⟨w.heap.size + 1, 0, none⟩) HR3 (fun b hb => hb) _) (fun b hb => hb) _) (fun b hb => hb) _) (Nat.le_add_right _ _)) (fun _ _ => trivial), below_set (below_set (below_set HW.out (Nat.le_add_right _ _)) (Nat.le_add_right _ _)) (Nat.le_add_right _ _)⟩
end Go.Proofs.Ytehjbhnlbjbhfaa.Dk
-- DkE
namespace Go.Proofs.Ytehjbhnlbjbhfaa.Dk
open Go Go.RowKit Go.Proofs.YtehjbhnlbjbhfaaW.PrintWords Go.Proofs.YtehjbhnlbjbhfaaW.PrintLast Go.Proofs.YtehjbhnlbjbhfaaW.PrintMore
open Go.Proofs.Ytehjbhnlbjbhfaa.PDiskBegins
attribute [local go_sem] max2_int min2_int max_two min_two
set_option linter.unusedVariables false
set_option linter.unusedSimpArgs false
def midFs (s : DS) (keep : List Int) (i : Nat) : List Fl := (List.range 8).map fun j => if j < i then afterP (fl s j) (kv keep j) else fl s j
theorem midFs_len (s : DS) (keep : List Int) (i : Nat) : (midFs s keep i).length = 8 := by simp [midFs]
theorem midFs_0 (s : DS) (keep : List Int) (h : s.fs.length = 8) : midFs s keep 0 = s.fs := by
  obtain ⟨a0, a1, a2, a3, a4, a5, a6, a7, e⟩ := eight h
  simp [midFs, fl, e, List.range, List.range.loop]
theorem midFs_8 (s : DS) (keep : List Int) (h : s.fs.length = 8) : midFs s keep 8 = fallFs keep 0 s.fs := by
  obtain ⟨a0, a1, a2, a3, a4, a5, a6, a7, e⟩ := eight h
  simp [midFs, fl, e, List.range, List.range.loop, fallFs]
theorem midFs_get (s : DS) (keep : List Int) (i j : Nat) (h : j < 8) : (midFs s keep i).getD j nf = if j < i then afterP (fl s j) (kv keep j) else fl s j := by
  unfold midFs
  rw [List.getD_eq_getElem?_getD, List.getElem?_map, List.getElem?_range h]; rfl
def midS (s : DS) (keep : List Int) (i : Nat) : DS := { s with fs := midFs s keep i }
theorem fl_mid (s : DS) (keep : List Int) (i j : Nat) (h : j < 8) : fl (midS s keep i) j = if j < i then afterP (fl s j) (kv keep j) else fl s j := midFs_get s keep i j h
theorem kv_range {keep : List Int} (h : ∀ x ∈ keep, -9223372036854775808 ≤ x ∧ x ≤ 9223372036854775807) (i : Nat) : -9223372036854775808 ≤ kv keep i ∧ kv keep i ≤ 9223372036854775807 := by
  unfold kv
  by_cases c : i < keep.length
  · rw [if_pos c]
    have : rd keep (i : Int) ∈ keep := by unfold rd; rw [Int.toNat_natCast, List.getD_eq_getElem?_getD, List.getElem?_eq_getElem c]; exact List.getElem_mem c
    exact h _ this
  · rw [if_neg c]; decide
theorem Rows.file {G : Nat → Prop} {W : World} {d : DV} {s : DS} (h : Rows G W d s) (hd : d.fs.length = 8) {i : Nat} (hi : i < 8) {v : FV} {f : Fl} (hf : FR G W v f) {d' : DV} {s' : DS} (ed : d' = { d with fs := d.fs.set i v }) (es : s' = { s with fs := s.fs.set i f }) : Rows G W d' s' := by
  subst ed es
  obtain ⟨h1, h2, h3, h4, h5, h6, h7⟩ := h
  refine ⟨h1, h2, h3, h4, h5, by simp [h6], fun j hj => ?_⟩
  have ea : (DV.f { d with fs := d.fs.set i v } j) = if i = j then v else d.f j := by
    unfold DV.f
    rw [List.getD_eq_getElem?_getD, List.getD_eq_getElem?_getD]
    simp only [List.getElem?_set]
    split
    · rename_i e; subst e; rw [if_pos (by omega)]; rfl
    · rfl
  have eb : (fl { s with fs := s.fs.set i f } j) = if i = j then f else fl s j := by
    unfold fl
    rw [List.getD_eq_getElem?_getD, List.getD_eq_getElem?_getD]
    simp only [List.getElem?_set]
    split
    · rename_i e; subst e; rw [if_pos (by omega)]; rfl
    · rfl
  rw [ea, eb]
  split
  · exact hf
  · exact h7 j hj
theorem mid_set (s : DS) (keep : List Int) {i : Nat} (hi : i < 8) : midS s keep (i + 1) = { midS s keep i with fs := (midS s keep i).fs.set i (afterP (fl s i) (kv keep i)) } := by
  unfold midS
  congr 1
  unfold midFs
  apply List.ext_getElem?
  intro j
  rw [List.getElem?_set]
  simp only [List.getElem?_map, List.length_map, List.length_range]
  rcases Nat.lt_or_ge j 8 with hj | hj
  · rw [List.getElem?_range hj]
    simp only [Option.map_some]
    by_cases e : i = j
    · subst e; rw [if_pos rfl, if_pos hi, if_pos (by omega)]
    · rw [if_neg e]
      by_cases c : j < i
      · rw [if_pos c, if_pos (by omega)]
      · rw [if_neg c, if_neg (by omega)]
  · rw [List.getElem?_eq_none (by simp; exact hj), if_neg (by omega)]; rfl
theorem At.set3 {W : World} {g : Nat} {d : DV} (h : At W g d) {i : Nat} (hi : i < 8) (v u : Value) (b : Bool) : At (((W.setCell ⟨g, 3 + i * 3, none⟩ v).setCell ⟨g, 3 + i * 3 + 1, none⟩ u).setCell ⟨g, 3 + i * 3 + 2, none⟩ (.bool b)) g { d with fs := d.fs.set i ⟨v, u, b⟩ } := by
  have h3 := ((h.setS hi v).setL hi u).setC hi b
  have e : ∀ (d : DV) (x : FV), d.fs.length = 8 → (DV.f { d with fs := d.fs.set i x } i) = x := by
    intro d x hd
    unfold DV.f
    rw [List.getD_eq_getElem?_getD, List.getElem?_set_self (by rw [hd]; exact hi)]; rfl
  rw [e d _ h.1] at h3
  simp only at h3
  have e2 := e { d with fs := d.fs.set i ⟨v, (d.f i).lv, (d.f i).cl⟩ } ⟨v, u, (d.f i).cl⟩ (by simp [h.1])
  simp only at e2
  rw [e2] at h3
  simpa only [List.set_set] using h3
set_option maxHeartbeats 8000000 in
set_option maxRecDepth 100000 in
theorem fall_calls (G : Nat → Prop) (g : Nat) (s : DS) (kV : Value) (keep : List Int) (w : World) (h : IsD G w g s) (hok : Ok s) (hk : Rw (fun b => b = g) .i64 w kV keep) (hkr : ∀ x ∈ keep, -9223372036854775808 ≤ x ∧ x ≤ 9223372036854775807) :
    Calls Try.prog 69 #[.pointer (some ⟨g, 0, none⟩), kV] w fun e w' => e = .returned (.tuple #[]) ∧ IsD G w' g (fallP s keep) ∧ Wr g w w' := by
  have HOK := Aside0.mk hok
  have HK := Aside0.mk hk
  have HKR := Aside0.mk (fun i => kv_range hkr i)
  have H0 := Aside0.mk (show IsD G w g (midS s keep 0) from by unfold midS; rw [midFs_0 s keep hok.len]; exact h)
  have HW := Aside0.mk (Wr.refl g w)
  obtain ⟨A0, c0, rfl, _, _⟩ := hk.slice
  have hm := Kd.C_max (Kd.V_reads' hk).2.2
  clear h hok hk hkr
  go_enter Try.func69, Try.ntmps69
  go_wp2_with (fail)
  go_loopw [6] (fun v6 wr => ∃ i : Nat, i ≤ 8 ∧ v6 = .int .i64 (i : Int) ∧ Aside0 (IsD G wr g (midS s keep i)) ∧ Aside0 (Wr g w wr)) (fun v6 _ => (8 - intOf v6).toNat)
  case atStart => exact ⟨0, by omega, rfl, H0, HW⟩
  case round =>
    obtain ⟨i, hi, rfl, H, HW⟩ := hrel
    clear H0
    by_cases hlt : i < 8
    · obtain ⟨hG, hgg, d, hA, hR⟩ := H.out
      have HG := Aside0.mk (And.intro hG hgg)
      have HA := Aside0.mk hA
      have HRS := Aside0.mk hR
      obtain ⟨f1, f2, f3⟩ := hR.2.2.2.2.2.2 i hlt
      rw [fl_mid s keep i i hlt, if_neg (Nat.lt_irrefl i)] at f1 f2 f3
      obtain ⟨A, c, hv, hvc, hC0⟩ := f1.slice
      obtain ⟨B, b, hx, hxc, hC1⟩ := f2.slice
      have hs := hA.sv hlt
      have hl := hA.lv hlt
      have hc := hA.cl hlt
      rw [hv] at hs
      rw [hx] at hl
      rw [f3] at hc
      have hfs := hA.frozen (3 + i * 3)
      have hfl := hA.frozen (3 + i * 3 + 1)
      have hfc := hA.frozen (3 + i * 3 + 2)
      have HGL := Aside0.mk hA.lt
      have HC0 := Aside0.mk hC0
      have HC1 := Aside0.mk hC1
      have hff := HOK.out.fl_mem hlt
      have HAF := Aside0.mk (fun (W : World) (q0 : (Kd.int .u8).C W A (fl s i).seen.length (fl s i).seen) (q1 : (Kd.int .u8).C W B (fl s i).lasts.length (fl s i).lasts) => after_calls A c B b (fl s i) (kv keep i) W (HKR.out i) q0 hvc q1 hxc (fun e => by
        obtain ⟨t, ht⟩ := HOK.out.pre _ hff e
        rw [ht, List.length_append]; omega) (HOK.out.seen_le hlt) (HOK.out.big _ hff))
      have HST := Aside0.mk (mid_set s keep hlt)
      have HAE := Aside0.mk (after_eq (fl s i) (kv keep i))
      rw [HAE.out] at HST
      clear hG hgg hA hR f1 f2 f3 hv hvc hC0 hx hxc hC1 hff H
      generalize (fl s i).seen.length = n at *
      generalize (fl s i).lasts.length = m at *
      generalize (fl s i).cl = cl at *
      by_cases hkl : i < keep.length
      case' pos =>
        obtain ⟨ad, e0, hcell⟩ := Kd.at_int (Kd.V_reads' (Kd.V_step HK.out (fun b hb hlt => HW.out.block b hlt (fun e => hb e)))).2.2 (i : Int) (by omega) (by omega)
        cases e0
        rw [Int.toNat_natCast] at hcell
        have HKE := Aside0.mk (show kv keep i = rd keep (i : Int) by unfold kv; rw [if_pos hkl])
        rw [← HKE.out] at hcell
      case' neg =>
        have HKE := Aside0.mk (show kv keep i = -1 by unfold kv; rw [if_neg hkl])
        rw [HKE.out] at HAF HST HAE
      case pos =>
        generalize kv keep i = k at *
        go_wp2
        clear hcell
        refine start_ (n := 14) (S := fun w' => w'.cell? ⟨g, 3 + i * 3, none⟩ = some (.slice A n c) ∧ w'.cell? ⟨g, 3 + i * 3 + 1, none⟩ = some (.slice B m b) ∧ w'.cell? ⟨g, 3 + i * 3 + 2, none⟩ = some (.bool cl) ∧ w'.frozen? ⟨g, 3 + i * 3, none⟩ = false ∧ w'.frozen? ⟨g, 3 + i * 3 + 1, none⟩ = false ∧ w'.frozen? ⟨g, 3 + i * 3 + 2, none⟩ = false) (ds := [13]) #[false, false, false, false, false, false, false, false, false, false, false, false, false, false] (by kernel_rfl) rfl rfl ⟨hs, hl, hc, hfs, hfl, hfc⟩ (fun hHeld => ?_)
        refine pure_ (i := 0) (N := some 17) (v := ?_) (a' := ?_) #[true, false, false, false, false, false, false, false, false, false, false, false, false, false] rfl rfl (by kernel_rfl) (fun _ _ _ h => h) (Or.inl ⟨by rfl, ?_⟩) ?_ ?_
        rotate_left
        · intro w'
          go_simp
          with_reducible rfl
        rotate_left
        · simp only [Act.put, List.setIfInBounds_toArray, List.set_cons_zero, List.set_cons_succ, i64_w, i32_w]
          rfl
        refine pure_ (i := 1) (N := some 18) (v := ?_) (a' := ?_) #[true, true, false, false, false, false, false, false, false, false, false, false, false, false] rfl rfl (by kernel_rfl) (fun _ _ _ h => h) (Or.inl ⟨by rfl, ?_⟩) ?_ ?_
        rotate_left
        · intro w'
          go_simp
          with_reducible rfl
        rotate_left
        · simp only [Act.put, List.setIfInBounds_toArray, List.set_cons_zero, List.set_cons_succ, i64_w, i32_w]
          rfl
        refine pure_ (i := 2) (N := some 19) (v := ?_) (a' := ?_) #[true, true, true, false, false, false, false, false, false, false, false, false, false, false] rfl rfl (by kernel_rfl) (fun _ _ _ h => h) (Or.inl ⟨by rfl, ?_⟩) ?_ ?_
        rotate_left
        · intro w'
          go_simp
          with_reducible rfl
        rotate_left
        · simp only [Act.put, List.setIfInBounds_toArray, List.set_cons_zero, List.set_cons_succ, i64_w, i32_w]
          rfl
        refine pure_ (i := 3) (N := some 20) (v := ?_) (a' := ?_) #[true, true, true, true, false, false, false, false, false, false, false, false, false, false] rfl rfl (by kernel_rfl) (fun _ _ _ h => h) (Or.inl ⟨by rfl, ?_⟩) ?_ ?_
        rotate_left
        · intro w'
          go_simp
          with_reducible rfl
        rotate_left
        · simp only [Act.put, List.setIfInBounds_toArray, List.set_cons_zero, List.set_cons_succ, i64_w, i32_w]
          rfl
        refine pure_ (i := 4) (N := some 21) (v := ?_) (a' := ?_) #[true, true, true, true, true, false, false, false, false, false, false, false, false, false] rfl rfl (by kernel_rfl) (fun _ _ _ h => h) (Or.inl ⟨by rfl, ?_⟩) ?_ ?_
        rotate_left
        · intro w'
          go_simp
          with_reducible rfl
        rotate_left
        · simp only [Act.put, List.setIfInBounds_toArray, List.set_cons_zero, List.set_cons_succ, i64_w, i32_w]
          rfl
        refine pure_ (i := 5) (N := some 22) (v := ?_) (a' := ?_) #[true, true, true, true, true, true, false, false, false, false, false, false, false, false] rfl rfl (by kernel_rfl) (fun _ _ _ h => h) (Or.inl ⟨by rfl, ?_⟩) ?_ ?_
        rotate_left
        · intro w'
          go_simp
          with_reducible rfl
        rotate_left
        · simp only [Act.put, List.setIfInBounds_toArray, List.set_cons_zero, List.set_cons_succ, i64_w, i32_w]
          rfl
        refine pure_ (i := 6) (N := some 23) (v := ?_) (a' := ?_) #[true, true, true, true, true, true, true, false, false, false, false, false, false, false] rfl rfl (by kernel_rfl) (fun _ _ _ h => h) (Or.inl ⟨by rfl, ?_⟩) ?_ ?_
        rotate_left
        · intro w'
          go_simp
          with_reducible rfl
        rotate_left
        · simp only [Act.put, List.setIfInBounds_toArray, List.set_cons_zero, List.set_cons_succ, i64_w, i32_w]
          rfl
        refine pure_ (i := 8) (N := some 25) (v := ?_) (a' := ?_) #[true, true, true, true, true, true, true, false, true, false, false, false, false, false] rfl rfl (by kernel_rfl) (fun _ _ _ h => h) (Or.inl ⟨by rfl, ?_⟩) ?_ ?_
        rotate_left
        · intro w'
          go_simp
          with_reducible rfl
        rotate_left
        · simp only [Act.put, List.setIfInBounds_toArray, List.set_cons_zero, List.set_cons_succ, i64_w, i32_w]
          rfl
        refine pure_ (i := 10) (N := some 27) (v := ?_) (a' := ?_) #[true, true, true, true, true, true, true, false, true, false, true, false, false, false] rfl rfl (by kernel_rfl) (fun _ _ _ h => h) (Or.inl ⟨by rfl, ?_⟩) ?_ ?_
        rotate_left
        · intro w'
          go_simp
          with_reducible rfl
        rotate_left
        · simp only [Act.put, List.setIfInBounds_toArray, List.set_cons_zero, List.set_cons_succ, i64_w, i32_w]
          rfl
        refine pure_ (i := 11) (N := some 28) (v := ?_) (a' := ?_) #[true, true, true, true, true, true, true, false, true, false, true, true, false, false] rfl rfl (by kernel_rfl) (fun _ _ _ h => h) (Or.inl ⟨by rfl, ?_⟩) ?_ ?_
        rotate_left
        · intro w'
          go_simp
          with_reducible rfl
        rotate_left
        · simp only [Act.put, List.setIfInBounds_toArray, List.set_cons_zero, List.set_cons_succ, i64_w, i32_w]
          rfl
        refine take_ (i := 7) (N := some 24) (v := ?_) (a' := ?_) #[true, true, true, true, true, true, true, true, true, false, true, true, false, false] rfl rfl (by kernel_rfl) (fun _ _ _ h => h) (Or.inl ⟨by rfl, ?_⟩) hHeld ?_ ?_
        rotate_left
        · rintro w' ⟨s0, s1, s2, s3, s4, s5⟩
          go_simp
          with_reducible rfl
        rotate_left
        · simp only [Act.put, List.setIfInBounds_toArray, List.set_cons_zero, List.set_cons_succ, i64_w, i32_w]
          rfl
        refine one_ (i := 9) (N := some 26) #[true, true, true, true, true, true, true, true, true, true, true, true, false, false] rfl rfl (by kernel_rfl) (by decide) (fun K hK => ?_)
        refine goes_ Try.func88 (by kernel_rfl) rfl #[.agg #[.slice A n c, .slice B m b, .bool cl], .int .i64 k] (by rfl) rfl rfl (by first | rfl | (simp; done) | (simp only [List.map_toArray, List.map_cons, List.map_nil]; rfl)) ?_
        with_reducible refine (HAF.out _ (by repeat (first | exact HC0.out | (with_reducible refine Kd.C_drew ?_) | (with_reducible refine Kd.C_drewN ?_ _))) (by repeat (first | exact HC1.out | (with_reducible refine Kd.C_drew ?_) | (with_reducible refine Kd.C_drewN ?_ _)))).mono ?_
        rintro e w3 ⟨v, rfl, hR, hb⟩
        refine ⟨_, rfl, ?_⟩
        obtain ⟨A3, c3, e3⟩ := Kd.R_slice hR
        subst e3
        refine hK.out _ _ ⟨(hb.cell (p := ⟨g, 3 + i * 3, none⟩) HGL.out).trans hHeld.1, (hb.cell (p := ⟨g, 3 + i * 3 + 1, none⟩) HGL.out).trans hHeld.2.1, (hb.cell (p := ⟨g, 3 + i * 3 + 2, none⟩) HGL.out).trans hHeld.2.2.1, (hb.frozen (p := ⟨g, 3 + i * 3, none⟩) HGL.out).trans hHeld.2.2.2.1, (hb.frozen (p := ⟨g, 3 + i * 3 + 1, none⟩) HGL.out).trans hHeld.2.2.2.2.1, (hb.frozen (p := ⟨g, 3 + i * 3 + 2, none⟩) HGL.out).trans hHeld.2.2.2.2.2⟩ (fun hHeld => ?_)
        clear hK K
        refine norm_ (a' := ?_) ?_ ?_
        rotate_left
        · show Act.put _ (some 26) _ = _
          simp only [Act.put, List.setIfInBounds_toArray, List.set_cons_zero, List.set_cons_succ, i64_w, i32_w]
          rfl
        refine pure_ (i := 12) (N := some 29) (v := ?_) (a' := ?_) #[true, true, true, true, true, true, true, true, true, true, true, true, true, false] rfl rfl (by kernel_rfl) (fun _ _ _ h => h) (Or.inl ⟨by rfl, ?_⟩) ?_ ?_
        rotate_left
        · intro w'
          go_simp
          with_reducible rfl
        rotate_left
        · simp only [Act.put, List.setIfInBounds_toArray, List.set_cons_zero, List.set_cons_succ, i64_w, i32_w]
          rfl
        refine last_ (i := 13) (N := none) #[true, true, true, true, true, true, true, true, true, true, true, true, true, true] rfl rfl (by kernel_rfl) (by decide) (fun K hK => ?_)
        obtain ⟨hx0, hx1, hx2, hy0, hy1, hy2⟩ := hHeld
        refine skip_ (w1 := ?_) (by rfl) rfl ?_ ?_
        rotate_left
        · go_simp
          rfl
        refine hK.out _ _ ?_
        clear hK K
        refine done_ (by kernel_rfl) ?_
        have HB3 := Aside0.mk (below_step (below_drew1 (Below.refl wr.heap.size wr)) hb)
        have HR3 := Aside0.mk hR
        clear hb hR hHeld hs hl hc hfs hfl hfc
        go_wp2
        go_roundw
        case rel =>
          have hw3 : Wr g wr w3 := Wr.of_below HB3.out
          have hA3 := HA.out.same (HB3.out.block g HGL.out)
          have hRw := Rw.of_R HR3.out (G := G) (fun b hb => HG.out.1 b hb)
          have hA4 := hA3.set3 hlt (.slice A3 (afterB (fl s i) k).length c3) (.slice A3 (afterB (fl s i) k).length c3) false
          have hw4 := ((hw3.set (3 + i * 3) (.slice A3 (afterB (fl s i) k).length c3)).set (3 + i * 3 + 1) (.slice A3 (afterB (fl s i) k).length c3)).set (3 + i * 3 + 2) (.bool false)
          have hw43 := (((Wr.refl g w3).set (3 + i * 3) (.slice A3 (afterB (fl s i) k).length c3)).set (3 + i * 3 + 1) (.slice A3 (afterB (fl s i) k).length c3)).set (3 + i * 3 + 2) (.bool false)
          refine ⟨i + 1, by omega, by go_num, ⟨?_⟩, ⟨HW.out.trans hw4⟩⟩
          have hRw4 := hRw.wr hw43 HG.out.2
          exact ⟨fun b hb => Nat.lt_of_lt_of_le (HG.out.1 b hb) hw4.size, HG.out.2, _, hA4, (HRS.out.wr hw4 HG.out.2).file HA.out.1 hlt (f := ⟨afterB (fl s i) k, afterB (fl s i) k, false⟩) ⟨hRw4, hRw4, rfl⟩ rfl HST.out⟩
        case measure => simp [intOf]; omega
      case neg =>
        go_wp2
        refine start_ (n := 14) (S := fun w' => w'.cell? ⟨g, 3 + i * 3, none⟩ = some (.slice A n c) ∧ w'.cell? ⟨g, 3 + i * 3 + 1, none⟩ = some (.slice B m b) ∧ w'.cell? ⟨g, 3 + i * 3 + 2, none⟩ = some (.bool cl) ∧ w'.frozen? ⟨g, 3 + i * 3, none⟩ = false ∧ w'.frozen? ⟨g, 3 + i * 3 + 1, none⟩ = false ∧ w'.frozen? ⟨g, 3 + i * 3 + 2, none⟩ = false) (ds := [13]) #[false, false, false, false, false, false, false, false, false, false, false, false, false, false] (by kernel_rfl) rfl rfl ⟨hs, hl, hc, hfs, hfl, hfc⟩ (fun hHeld => ?_)
        refine pure_ (i := 0) (N := some 17) (v := ?_) (a' := ?_) #[true, false, false, false, false, false, false, false, false, false, false, false, false, false] rfl rfl (by kernel_rfl) (fun _ _ _ h => h) (Or.inl ⟨by rfl, ?_⟩) ?_ ?_
        rotate_left
        · intro w'
          go_simp
          with_reducible rfl
        rotate_left
        · simp only [Act.put, List.setIfInBounds_toArray, List.set_cons_zero, List.set_cons_succ, i64_w, i32_w]
          rfl
        refine pure_ (i := 1) (N := some 18) (v := ?_) (a' := ?_) #[true, true, false, false, false, false, false, false, false, false, false, false, false, false] rfl rfl (by kernel_rfl) (fun _ _ _ h => h) (Or.inl ⟨by rfl, ?_⟩) ?_ ?_
        rotate_left
        · intro w'
          go_simp
          with_reducible rfl
        rotate_left
        · simp only [Act.put, List.setIfInBounds_toArray, List.set_cons_zero, List.set_cons_succ, i64_w, i32_w]
          rfl
        refine pure_ (i := 2) (N := some 19) (v := ?_) (a' := ?_) #[true, true, true, false, false, false, false, false, false, false, false, false, false, false] rfl rfl (by kernel_rfl) (fun _ _ _ h => h) (Or.inl ⟨by rfl, ?_⟩) ?_ ?_
        rotate_left
        · intro w'
          go_simp
          with_reducible rfl
        rotate_left
        · simp only [Act.put, List.setIfInBounds_toArray, List.set_cons_zero, List.set_cons_succ, i64_w, i32_w]
          rfl
        refine pure_ (i := 3) (N := some 20) (v := ?_) (a' := ?_) #[true, true, true, true, false, false, false, false, false, false, false, false, false, false] rfl rfl (by kernel_rfl) (fun _ _ _ h => h) (Or.inl ⟨by rfl, ?_⟩) ?_ ?_
        rotate_left
        · intro w'
          go_simp
          with_reducible rfl
        rotate_left
        · simp only [Act.put, List.setIfInBounds_toArray, List.set_cons_zero, List.set_cons_succ, i64_w, i32_w]
          rfl
        refine pure_ (i := 4) (N := some 21) (v := ?_) (a' := ?_) #[true, true, true, true, true, false, false, false, false, false, false, false, false, false] rfl rfl (by kernel_rfl) (fun _ _ _ h => h) (Or.inl ⟨by rfl, ?_⟩) ?_ ?_
        rotate_left
        · intro w'
          go_simp
          with_reducible rfl
        rotate_left
        · simp only [Act.put, List.setIfInBounds_toArray, List.set_cons_zero, List.set_cons_succ, i64_w, i32_w]
          rfl
        refine pure_ (i := 5) (N := some 22) (v := ?_) (a' := ?_) #[true, true, true, true, true, true, false, false, false, false, false, false, false, false] rfl rfl (by kernel_rfl) (fun _ _ _ h => h) (Or.inl ⟨by rfl, ?_⟩) ?_ ?_
        rotate_left
        · intro w'
          go_simp
          with_reducible rfl
        rotate_left
        · simp only [Act.put, List.setIfInBounds_toArray, List.set_cons_zero, List.set_cons_succ, i64_w, i32_w]
          rfl
        refine pure_ (i := 6) (N := some 23) (v := ?_) (a' := ?_) #[true, true, true, true, true, true, true, false, false, false, false, false, false, false] rfl rfl (by kernel_rfl) (fun _ _ _ h => h) (Or.inl ⟨by rfl, ?_⟩) ?_ ?_
        rotate_left
        · intro w'
          go_simp
          with_reducible rfl
        rotate_left
        · simp only [Act.put, List.setIfInBounds_toArray, List.set_cons_zero, List.set_cons_succ, i64_w, i32_w]
          rfl
        refine pure_ (i := 8) (N := some 25) (v := ?_) (a' := ?_) #[true, true, true, true, true, true, true, false, true, false, false, false, false, false] rfl rfl (by kernel_rfl) (fun _ _ _ h => h) (Or.inl ⟨by rfl, ?_⟩) ?_ ?_
        rotate_left
        · intro w'
          go_simp
          with_reducible rfl
        rotate_left
        · simp only [Act.put, List.setIfInBounds_toArray, List.set_cons_zero, List.set_cons_succ, i64_w, i32_w]
          rfl
        refine pure_ (i := 10) (N := some 27) (v := ?_) (a' := ?_) #[true, true, true, true, true, true, true, false, true, false, true, false, false, false] rfl rfl (by kernel_rfl) (fun _ _ _ h => h) (Or.inl ⟨by rfl, ?_⟩) ?_ ?_
        rotate_left
        · intro w'
          go_simp
          with_reducible rfl
        rotate_left
        · simp only [Act.put, List.setIfInBounds_toArray, List.set_cons_zero, List.set_cons_succ, i64_w, i32_w]
          rfl
        refine pure_ (i := 11) (N := some 28) (v := ?_) (a' := ?_) #[true, true, true, true, true, true, true, false, true, false, true, true, false, false] rfl rfl (by kernel_rfl) (fun _ _ _ h => h) (Or.inl ⟨by rfl, ?_⟩) ?_ ?_
        rotate_left
        · intro w'
          go_simp
          with_reducible rfl
        rotate_left
        · simp only [Act.put, List.setIfInBounds_toArray, List.set_cons_zero, List.set_cons_succ, i64_w, i32_w]
          rfl
        refine take_ (i := 7) (N := some 24) (v := ?_) (a' := ?_) #[true, true, true, true, true, true, true, true, true, false, true, true, false, false] rfl rfl (by kernel_rfl) (fun _ _ _ h => h) (Or.inl ⟨by rfl, ?_⟩) hHeld ?_ ?_
        rotate_left
        · rintro w' ⟨s0, s1, s2, s3, s4, s5⟩
          go_simp
          with_reducible rfl
        rotate_left
        · simp only [Act.put, List.setIfInBounds_toArray, List.set_cons_zero, List.set_cons_succ, i64_w, i32_w]
          rfl
        refine one_ (i := 9) (N := some 26) #[true, true, true, true, true, true, true, true, true, true, true, true, false, false] rfl rfl (by kernel_rfl) (by decide) (fun K hK => ?_)
        refine goes_ Try.func88 (by kernel_rfl) rfl #[.agg #[.slice A n c, .slice B m b, .bool cl], .int .i64 (-1)] (by rfl) rfl rfl (by first | rfl | (simp; done) | (simp only [List.map_toArray, List.map_cons, List.map_nil]; rfl)) ?_
        with_reducible refine (HAF.out _ (by repeat (first | exact HC0.out | (with_reducible refine Kd.C_drew ?_) | (with_reducible refine Kd.C_drewN ?_ _))) (by repeat (first | exact HC1.out | (with_reducible refine Kd.C_drew ?_) | (with_reducible refine Kd.C_drewN ?_ _)))).mono ?_
        rintro e w3 ⟨v, rfl, hR, hb⟩
        refine ⟨_, rfl, ?_⟩
        obtain ⟨A3, c3, e3⟩ := Kd.R_slice hR
        subst e3
        refine hK.out _ _ ⟨(hb.cell (p := ⟨g, 3 + i * 3, none⟩) HGL.out).trans hHeld.1, (hb.cell (p := ⟨g, 3 + i * 3 + 1, none⟩) HGL.out).trans hHeld.2.1, (hb.cell (p := ⟨g, 3 + i * 3 + 2, none⟩) HGL.out).trans hHeld.2.2.1, (hb.frozen (p := ⟨g, 3 + i * 3, none⟩) HGL.out).trans hHeld.2.2.2.1, (hb.frozen (p := ⟨g, 3 + i * 3 + 1, none⟩) HGL.out).trans hHeld.2.2.2.2.1, (hb.frozen (p := ⟨g, 3 + i * 3 + 2, none⟩) HGL.out).trans hHeld.2.2.2.2.2⟩ (fun hHeld => ?_)
        clear hK K
        refine norm_ (a' := ?_) ?_ ?_
        rotate_left
        · show Act.put _ (some 26) _ = _
          simp only [Act.put, List.setIfInBounds_toArray, List.set_cons_zero, List.set_cons_succ, i64_w, i32_w]
          rfl
        refine pure_ (i := 12) (N := some 29) (v := ?_) (a' := ?_) #[true, true, true, true, true, true, true, true, true, true, true, true, true, false] rfl rfl (by kernel_rfl) (fun _ _ _ h => h) (Or.inl ⟨by rfl, ?_⟩) ?_ ?_
        rotate_left
        · intro w'
          go_simp
          with_reducible rfl
        rotate_left
        · simp only [Act.put, List.setIfInBounds_toArray, List.set_cons_zero, List.set_cons_succ, i64_w, i32_w]
          rfl
        refine last_ (i := 13) (N := none) #[true, true, true, true, true, true, true, true, true, true, true, true, true, true] rfl rfl (by kernel_rfl) (by decide) (fun K hK => ?_)
        obtain ⟨hx0, hx1, hx2, hy0, hy1, hy2⟩ := hHeld
        refine skip_ (w1 := ?_) (by rfl) rfl ?_ ?_
        rotate_left
        · go_simp
          rfl
        refine hK.out _ _ ?_
        clear hK K
        refine done_ (by kernel_rfl) ?_
        have HB3 := Aside0.mk (below_step (below_drew1 (Below.refl wr.heap.size wr)) hb)
        have HR3 := Aside0.mk hR
        clear hb hR hHeld hs hl hc hfs hfl hfc
        go_wp2
        go_roundw
        case rel =>
          have hw3 : Wr g wr w3 := Wr.of_below HB3.out
          have hA3 := HA.out.same (HB3.out.block g HGL.out)
          have hRw := Rw.of_R HR3.out (G := G) (fun b hb => HG.out.1 b hb)
          have hA4 := hA3.set3 hlt (.slice A3 (afterB (fl s i) (-1)).length c3) (.slice A3 (afterB (fl s i) (-1)).length c3) false
          have hw4 := ((hw3.set (3 + i * 3) (.slice A3 (afterB (fl s i) (-1)).length c3)).set (3 + i * 3 + 1) (.slice A3 (afterB (fl s i) (-1)).length c3)).set (3 + i * 3 + 2) (.bool false)
          have hw43 := (((Wr.refl g w3).set (3 + i * 3) (.slice A3 (afterB (fl s i) (-1)).length c3)).set (3 + i * 3 + 1) (.slice A3 (afterB (fl s i) (-1)).length c3)).set (3 + i * 3 + 2) (.bool false)
          refine ⟨i + 1, by omega, by go_num, ⟨?_⟩, ⟨HW.out.trans hw4⟩⟩
          have hRw4 := hRw.wr hw43 HG.out.2
          exact ⟨fun b hb => Nat.lt_of_lt_of_le (HG.out.1 b hb) hw4.size, HG.out.2, _, hA4, (HRS.out.wr hw4 HG.out.2).file HA.out.1 hlt (f := ⟨afterB (fl s i) (-1), afterB (fl s i) (-1), false⟩) ⟨hRw4, hRw4, rfl⟩ rfl HST.out⟩
        case measure => simp [intOf]; omega
    · obtain rfl : i = 8 := by omega
      rw [show ((8 : Nat) : Int) = 8 from rfl]
      have HE := Aside0.mk (midFs_8 s keep HOK.out.len)
      obtain ⟨hG, hgg, d, hA, hR⟩ := H.out
      have hc0 := hA.c0
      have hc1 := hA.c1
      have hc2 := hA.c2
      have hc28 := hA.c28
      have hf0 := hA.frozen 0
      have hf1 := hA.frozen 1
      have hf2 := hA.frozen 2
      have hf28 := hA.frozen 28
      obtain ⟨A, c, hv, _, _⟩ := hR.2.2.1.slice
      rw [hv] at hc2
      have HA := Aside0.mk hA
      have HR := Aside0.mk hR
      clear hA hR hlt hi hv hG hgg
      go_wp2
      first | go_end0 | ((try simp only [Exit.inBlock, Exit.then]); refine bodyPost_ret (results_none rfl _ _ _) rfl ?_)
      have hA4 := (((HA.out.set28 true).set0 false).set1 0).set2 (.slice none 0 0)
      have hw4 := (((((Wr.refl g wr).set 28 (.bool true)).set 0 (.bool false)).set 1 (.int .i64 0)).set 2 (.slice none 0 0))
      refine ⟨rfl, ?_, HW.out.trans hw4⟩
      have hr := HR.out.wr hw4 H.out.gg
      refine ⟨fun b hb => Nat.lt_of_lt_of_le (H.out.lt b hb) hw4.size, H.out.gg, _, hA4, rfl, rfl, Rw.nil _ _ _, hr.2.2.2.1, rfl, ?_, ?_⟩
      · show (fallFs keep 0 s.fs).length = 8
        rw [← HE.out]; exact midFs_len _ _ _
      · intro j hj
        have h7 := hr.2.2.2.2.2.2 j hj
        have e : fl (fallP s keep) j = fl (midS s keep 8) j := by
          unfold fl fallP midS
          simp only
          rw [← HE.out]
        rw [e]
        exact h7
end Go.Proofs.Ytehjbhnlbjbhfaa.Dk
