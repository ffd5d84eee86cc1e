/- Texts that the row of LawTapeKept rests on, part 5 of 12: contracts of the functions, their walks, plain laws. -/
import Derived.Test.YtehjbhnlbjbhfaaBnTapeKept4
import Derived.Laws.BitsLemmas
import Derived.Laws.BitsAllLaws
import Derived.Laws.DeepNot64
import Derived.Laws.Bits64b
import Derived.Test.YtehjbhnlbjbhfaaProg
import Derived.Below
import Derived.Deep.Draws
import Derived.Deep.AppendLies
import Derived.Maps.AppendAt
import Derived.OwnWalk
import Derived.Laws.BytesArg
import Derived.Laws.MakeOwn
import Derived.Laws.OwnMore
import Derived.Deep.OwnRows
import Derived.Tactics
import Derived.Lib.ConvBytes
import Derived.Laws.Slices
import Derived.WalkKit
import Derived.KernelRfl
import Derived.RowKit3
import Derived.Deep.LoopGhost
import Derived.Deep.QuietTactic
import Derived.BigQuiet
import Derived.WideLaws
import Derived.Deep.DeepCutAuto
import Derived.Deep.CutBlock
import Derived.Deep.RegionHeld3
import Derived.Laws.Rows
import Derived.Lib.AppendStr
import Derived.ArgAppend
import Derived.Laws.IdiomCopy
import Derived.OrdersHeld
import Derived.RowKit
import Derived.Lib.SliceRun
-- PlainS
namespace Go.Proofs.Ytehjbhnlbjbhfaa.Wire
open Go Go.RowKit Go.Proofs.YtehjbhnlbjbhfaaW.PrintWords Go.Proofs.YtehjbhnlbjbhfaaW.PrintLast Go.Proofs.YtehjbhnlbjbhfaaW.PrintMore
open Go.Proofs.Ytehjbhnlbjbhfaa.WBase
set_option linter.unusedVariables false
def bitS (c : Nat) : Nat := if c % 2 = 1 then (c / 2) ^^^ 2197175160 else c / 2
def bitsS : Nat → Nat → Nat
  | 0, c => c
  | n + 1, c => bitsS n (bitS c)
def crc (l : List Int) (c : Nat) : Nat := l.foldl (fun c x => bitsS 8 (c ^^^ x.toNat)) c
def sumP (l : List Int) : Int := ((4294967295 ^^^ crc l 4294967295 : Nat) : Int)
theorem bitS_lt {c : Nat} (h : c < 4294967296) : bitS c < 4294967296 := by
  unfold bitS
  split
  · exact Nat.xor_lt_two_pow (n := 32) (by omega) (by decide)
  · omega
theorem bitsS_lt : ∀ (n c : Nat), c < 4294967296 → bitsS n c < 4294967296 := by
  intro n
  induction n with
  | zero => intro c h; exact h
  | succ n ih => intro c h; exact ih _ (bitS_lt h)
theorem xor_lt {a b : Nat} (ha : a < 4294967296) (hb : b < 4294967296) : a ^^^ b < 4294967296 := Nat.xor_lt_two_pow (n := 32) ha hb
theorem and32 (a b : Nat) (ha : a < 4294967296) (hb : b < 4294967296) : Go.bits .and .u32 (a : Int) (b : Int) = ((a &&& b : Nat) : Int) :=
  (bits_nat .u32 32 (by decide) (fun n h0 h1 => by simp only [IntKind.wrap, IntKind.bits, IntKind.signed]; simp; omega) a b ha hb).1
theorem bit_w (c : Nat) (h : c < 4294967296) : Go.bits .xor .u32 ((c : Int) / 2) (Go.bits .and .u32 2197175160 ((-(Go.bits .and .u32 (c : Int) 1)) % 4294967296)) = (bitS c : Int) := by
  have h1 : Go.bits .and .u32 (c : Int) 1 = ((c % 2 : Nat) : Int) := by
    have := and32 c 1 h (by decide)
    rw [Nat.and_one_is_mod] at this
    exact this
  rw [h1, show (c : Int) / 2 = ((c / 2 : Nat) : Int) by omega]
  unfold bitS
  rcases Nat.mod_two_eq_zero_or_one c with h2 | h2
  · rw [h2, if_neg (by decide), show (-((0 : Nat) : Int)) % 4294967296 = ((0 : Nat) : Int) by decide, show (2197175160 : Int) = ((2197175160 : Nat) : Int) from rfl, and32 _ _ (by decide) (by decide), Nat.and_zero, u32_xor_nat _ _ (by omega) (by decide), Nat.xor_zero]
  · rw [h2, if_pos rfl, show (-((1 : Nat) : Int)) % 4294967296 = ((4294967295 : Nat) : Int) by decide, show (2197175160 : Int) = ((2197175160 : Nat) : Int) from rfl, and32 _ _ (by decide) (by decide), show (2197175160 : Nat) &&& 4294967295 = 2197175160 by decide, u32_xor_nat _ _ (by omega) (by decide)]
theorem sum_l1 (s : List Int) (x8 x9 : Int) : ∀ (n j k : Nat) (c : Nat), c < 4294967296 → j + n = 8 → n < k → wire_Sum.l1 k (c : Int) s x8 x9 (j : Int) = wire_Sum.l0 (k - n - 1) ((bitsS n c : Nat) : Int) s x8 (wrap64 (x9 + 1)) := by
  intro n
  induction n with
  | zero =>
    intro j k c hc hj hk
    obtain ⟨k, rfl⟩ : ∃ k', k = k' + 1 := ⟨k - 1, by omega⟩
    simp only [wire_Sum.l1]
    rw [if_neg (by omega)]
    rfl
  | succ n ih =>
    intro j k c hc hj hk
    obtain ⟨k, rfl⟩ : ∃ k', k = k' + 1 := ⟨k - 1, by omega⟩
    simp only [wire_Sum.l1]
    rw [if_pos (by omega), bit_w c hc, show wrap64 ((j : Int) + 1) = ((j + 1 : Nat) : Int) by unfold wrap64; omega, ih (j + 1) k (bitS c) (bitS_lt hc) (by omega) (by omega), show k + 1 - (n + 1) - 1 = k - n - 1 by omega]
    rfl
theorem sum_l0 (s : List Int) (hs : Bs s) (hlen : s.length < 140737488355328) : ∀ (r : List Int) (i k c : Nat), s.drop i = r → c < 4294967296 → i ≤ s.length → 10 * r.length < k → wire_Sum.l0 k (c : Int) s (s.length : Int) (i : Int) = some ((4294967295 ^^^ crc r c : Nat) : Int) := by
  intro r
  induction r with
  | nil =>
    intro i k c hd hc hi hk
    obtain ⟨k, rfl⟩ : ∃ k', k = k' + 1 := ⟨k - 1, by omega⟩
    have h0 := List.drop_eq_nil_iff.1 hd
    simp only [wire_Sum.l0]
    rw [if_neg (by omega), show (4294967295 : Int) = ((4294967295 : Nat) : Int) from rfl, u32_xor_nat _ _ (by decide) hc]
    rfl
  | cons x r ih =>
    intro i k c hd hc hi hk
    obtain ⟨hx, hlt, hmem, hd2⟩ := rd_drop hd
    obtain ⟨hx0, hx1⟩ := hs x hmem
    obtain ⟨b, rfl⟩ := Int.eq_ofNat_of_zero_le hx0
    rw [List.length_cons] at hk
    obtain ⟨k, rfl⟩ : ∃ k', k = k' + 1 := ⟨k - 1, by omega⟩
    simp only [wire_Sum.l0]
    rw [if_pos (by omega), if_pos (by omega), if_pos (by omega), hx, show (b : Int) % 4294967296 = (b : Int) by omega, u32_xor_nat _ _ hc (by omega)]
    have h1 := sum_l1 s (s.length : Int) (i : Int) 8 0 k (c ^^^ b) (xor_lt hc (by omega)) rfl (by omega)
    refine h1.trans ?_
    clear h1
    rw [show wrap64 ((i : Int) + 1) = ((i + 1 : Nat) : Int) by unfold wrap64; omega]
    exact ih (i + 1) _ _ hd2 (bitsS_lt 8 _ (xor_lt hc (by omega))) (by omega) (by omega)
theorem Sum_eq (s : List Int) (hs : Bs s) (hlen : s.length < 140737488355328) (k : Nat) (hk : 10 * s.length < k) : wire_Sum.f k s = some (sumP s) := sum_l0 s hs hlen s 0 k 4294967295 rfl (by decide) (Nat.zero_le _) hk
end Go.Proofs.Ytehjbhnlbjbhfaa.Wire
-- Open
namespace Go.Proofs.Ytehjbhnlbjbhfaa.Wire
open Go Go.RowKit Go.Proofs.YtehjbhnlbjbhfaaW.PrintWords Go.Proofs.YtehjbhnlbjbhfaaW.PrintLast Go.Proofs.YtehjbhnlbjbhfaaW.PrintMore
open Go.Proofs.Ytehjbhnlbjbhfaa.WBase
attribute [local go_sem] max2_int min2_int max_two min_two
set_option linter.unusedVariables false
set_option linter.unusedSimpArgs false
def fourP (a : Int) : List Int := [(a / 16777216) % 256, (a / 65536) % 256, (a / 256) % 256, a % 256]
def openP (l : List Int) : List Int × Nat × Int :=
  if (bytesP (l.take 8208) 0 8192).2.2 ≠ 0 then ([], 0, (bytesP (l.take 8208) 0 8192).2.2)
  else if l.length < (bytesP (l.take 8208) 0 8192).2.1 + 4 then ([], 0, 2)
  else if fourP (sumP (l.take (bytesP (l.take 8208) 0 8192).2.1)) = (l.drop (bytesP (l.take 8208) 0 8192).2.1).take 4 then ((bytesP (l.take 8208) 0 8192).1, (bytesP (l.take 8208) 0 8192).2.1 + 4, 0)
  else ([], 0, 11)
theorem Bs.take {l : List Int} (h : Bs l) (n : Nat) : Bs (l.take n) := fun x hx => h x (List.mem_of_mem_take hx)
theorem Bs.drop {l : List Int} (h : Bs l) (n : Nat) : Bs (l.drop n) := fun x hx => h x (List.mem_of_mem_drop hx)
theorem bytesP_le (s : List Int) (at_ : Nat) (most : Int) (h : at_ ≤ s.length) : (bytesP s at_ most).2.1 ≤ s.length := by
  unfold bytesP
  generalize (if most < 0 then (0 : Int) else most) = M
  split
  · exact h
  · split
    · exact h
    · split
      · exact h
      · rename_i c; show at_ + (num (s.drop at_)).2.1 + (num (s.drop at_)).1 ≤ s.length; omega
theorem rd_nat {l : List Int} {j : Nat} (h : j < l.length) : rd l (j : Int) = l[j] := by
  unfold rd
  rw [Int.toNat_natCast, List.getD_eq_getElem?_getD, List.getElem?_eq_getElem h]; rfl
theorem four_all {x y : List Int} {n : Nat} (hx : x.length = 4) (hn : n + 4 ≤ y.length) (h : ∀ i, i < 4 → rd y ((n + i : Nat) : Int) = rd x (i : Int)) : x = (y.drop n).take 4 := by
  apply List.ext_getElem
  · rw [hx, List.length_take, List.length_drop]; omega
  · intro i h1 h2
    have h3 := h i (by omega)
    rw [rd_nat (by omega), rd_nat (by omega)] at h3
    rw [List.getElem_take, List.getElem_drop]; exact h3.symm
theorem four_not {x y : List Int} {n i : Nat} (hx : x.length = 4) (hn : n + 4 ≤ y.length) (hi : i < 4) (h : rd y ((n + i : Nat) : Int) ≠ rd x (i : Int)) : x ≠ (y.drop n).take 4 := by
  intro e
  apply h
  rw [rd_nat (show n + i < y.length by omega), rd_nat (show i < x.length by omega)]
  subst e
  rw [List.getElem_take, List.getElem_drop]
theorem cut_take {w0 : World} (A : Option Addr) (c : Nat) (s : List Int) (m : Nat) (hC : Kd.C (Kd.int .u8) w0 A s.length s) (hc : s.length ≤ c) (hm : m ≤ s.length) :
    (∀ W : World, (Instr.slice 32 (.slice A s.length c) none (some (.int .i64 (m : Int))) none).run Try.prog W = .ok (.slice A (s.take m).length c) W) ∧ Kd.C (Kd.int .u8) w0 A (s.take m).length (s.take m) ∧ (s.take m).length ≤ c := by
  obtain ⟨i0, hi, hz0, hz1, hz2⟩ := info_parts info5
  have hl : (s.take m).length = m := by rw [List.length_take]; omega
  refine ⟨fun W => ?_, Kd.C_take hC hm, by omega⟩
  rw [cut_to (P := Try.prog) 32 5 .i64 Try.underlying32 hi A s.length c m (by omega) (by omega) hc W, hl, Int.toNat_natCast]
set_option maxHeartbeats 8000000 in
set_option maxRecDepth 100000 in
theorem Open_calls (A0 : Option Addr) (c0 : Nat) (l : List Int) (w : World) (hr0 : Kd.C (Kd.int .u8) w A0 l.length l) (hc0 : l.length ≤ c0) (hs : Bs l) (hlen : l.length < 140737488355328) :
    Calls Try.prog 92 #[.slice A0 l.length c0] w fun e w' => ∃ v, e = .returned (.tuple #[v, .int .i64 ((openP l).2.1 : Int), .int .i64 (openP l).2.2]) ∧ Kd.R (Kd.int .u8) 5 w' w.heap.size (fun _ => True) v (openP l).1 ∧ Below w.heap.size w w' := by
  have HR0 := Aside0.mk hr0
  have HC0 := Aside0.mk hc0
  have HS := Aside0.mk hs
  have HLN := Aside0.mk hlen
  have HO := Aside0.mk (show openP l = openP l from rfl)
  conv at HO => arg 1; rhs; unfold openP
  obtain ⟨P, hP⟩ : ∃ P, openP l = P := ⟨_, rfl⟩
  rw [hP] at HO ⊢
  obtain ⟨m, hm, hml⟩ : ∃ m : Nat, (if (8208 : Int) < (l.length : Int) then (8208 : Int) else (l.length : Int)) = (m : Int) ∧ m ≤ l.length ∧ l.take m = l.take 8208 := by
    by_cases h : (8208 : Int) < (l.length : Int)
    · exact ⟨8208, if_pos h, by omega, rfl⟩
    · exact ⟨l.length, if_neg h, Nat.le_refl _, by rw [List.take_of_length_le (Nat.le_refl _), List.take_of_length_le (by omega)]⟩
  have hbt := bytesP_le (l.take 8208) 0 8192 (Nat.zero_le _)
  have htl : (l.take 8208).length ≤ l.length := List.length_take_le' _ _
  obtain ⟨hcut, hCt, hlt⟩ := cut_take A0 c0 l m HR0.out HC0.out hml.1
  rw [hml.2] at hcut hCt hlt
  have HSy := Aside0.mk (Bs.take hs 8208)
  generalize l.take 8208 = y at *
  obtain ⟨q, hq⟩ : ∃ q, bytesP y 0 8192 = q := ⟨_, rfl⟩
  rw [hq] at HO hbt
  have HQ := Aside0.mk hq
  have HCt := Aside0.mk hCt
  have HLt := Aside0.mk hlt
  obtain ⟨d, n, er⟩ := q
  replace hbt : n ≤ y.length := hbt
  have HYL := Aside0.mk (show y.length < 140737488355328 by omega)
  have HBT := Aside0.mk (show n ≤ l.length by omega)
  clear hr0 hc0 hs hlen hP hml hbt htl hCt hlt hq
  go_enter Try.func92, Try.ntmps92
  go_wp2_with (fail)
  refine (Read_calls A0 c0 y _ HCt.out HLt.out HYL.out).mono ?_
  rintro e w2 ⟨w1, g, rfl, hI, hB1, hB⟩
  have HB1 := Aside0.mk hB1
  have HI2 := Aside0.mk hI
  have HB2 := Aside0.mk hB
  clear hB1 hI hB
  go_wp2_with (fail)
  refine (Bytes_calls g y 0 8192 (by omega) w1 _ HI2.out HB2.out HSy.out HYL.out (Nat.zero_le _)).mono ?_
  rintro e w3 ⟨v, rfl, hR, hI, hB, hK⟩
  rw [HQ.out] at hR hI
  have HR := Aside0.mk hR
  have HI := Aside0.mk hI
  have HB := Aside0.mk hB
  have HK := Aside0.mk hK
  have HE := Aside0.mk (show wire_Reader_Err.f y (n : Int) er true = some (er, (n : Int), er, true) from rfl)
  have HZ2 := Aside0.mk (below_step HB1.out HB2.out).size
  clear hR hI hB hK HI2 HB2 HQ
  go_wp2_with (fail)
  refine (wire_Reader_Err.calls g y _ _ _ _ _ _ _ w1 _ HI.out HB.out HE.out).mono ?_
  rintro e w4 ⟨rfl, hI, hB, hK⟩
  have HI4 := Aside0.mk hI
  have HBW := Aside0.mk (below_step HB1.out hB)
  have HR4 := Aside0.mk (Kd.R_mono (ok' := fun _ => True) (Kd.R_lower (Kd.R_keep HR.out hK (fun k hk => hk)) HZ2.out) (fun _ _ => trivial))
  clear hI hB hK HR HI HB HK HB1 HE
  by_cases c0 : er = 0
  · subst c0
    have HN := Aside0.mk HBT.out
    obtain ⟨AS, cS, HG, hg, HSx⟩ := HI4.out
    have hc_1 := cellS62_1 HG
    clear HG hg HSx
    have hw1 : wrap64 ((l.length : Int) - (n : Int)) = (l.length : Int) - (n : Int) := by have h1 := HLN.out; have h2 := HBT.out; unfold wrap64; omega
    by_cases c1 : l.length < n + 4
    · have hP : P = ([], 0, 2) := by have h := HO.out; simp only [ne_eq, not_true_eq_false, if_false] at h; rw [if_pos c1] at h; exact h
      subst hP
      have c1b : decide ((l.length : Int) - (n : Int) < 4) = true := decide_eq_true (by clear hw1; omega)
      have HC1 := Aside0.mk c1
      clear c1
      go_wp2_with (fail)
      go_ret3
      exact ⟨_, rfl, Kd.R_nil _ _ _ _ _, HBW.out⟩
    · have hO2 : P = if fourP (sumP (l.take n)) = (l.drop n).take 4 then (d, n + 4, 0) else ([], 0, 11) := by have h := HO.out; simp only [ne_eq, not_true_eq_false, if_false] at h; rw [if_neg c1] at h; exact h
      have HO2 := Aside0.mk hO2
      have c1b : decide ((l.length : Int) - (n : Int) < 4) = false := decide_eq_false (by clear hw1; omega)
      have HC1 := Aside0.mk c1
      obtain ⟨hcut2, hCs, hls⟩ := cut_take A0 c0 l n HR0.out HC0.out HBT.out
      have HSUM := Aside0.mk (Sum_eq (l.take n) (Bs.take HS.out n) (by rw [List.length_take]; have := HLN.out; clear hw1; omega) (10 * (l.take n).length + 1) (Nat.lt_succ_self _))
      have HCs := Aside0.mk (Kd.C_below hCs HBW.out)
      have HLs := Aside0.mk hls
      clear c1 hO2 hCs hls HO
      generalize l.take n = ys at *
      go_wp2_with (fail)
      refine (wire_Sum.calls _ A0 c0 ys _ _ HCs.out HLs.out HSUM.out).mono ?_
      rintro e w5 ⟨rfl, ⟨nd, rfl⟩⟩
      clear hc_1 hcut2
      go_wp2_with (fail)
      refine (wire_four.calls (sumP ys) (fourP (sumP ys)) _ rfl).mono ?_
      rintro e w6 ⟨v4, rfl, h4, hb⟩
      have HB6 := Aside0.mk (below_step (pw_below_drewN HBW.out nd) hb)
      have HR6 := Aside0.mk (Kd.R_below (Kd.R_drewN HR4.out nd) hb)
      obtain ⟨A4, c4, hv4⟩ := Kd.R_slice h4
      subst hv4
      have H4 := Aside0.mk h4
      have hx4 : (fourP (sumP ys)).length = 4 := rfl
      clear h4 hb HBW HR4 HSUM HCs HLs
      generalize fourP (sumP ys) = x4 at *
      have HX4 := Aside0.mk hx4
      go_wp2_with (fail)
      go_loopw [41] (fun v41 wr => ∃ j : Nat, j ≤ 4 ∧ v41 = .int .i64 (j : Int) ∧ Aside0 (∀ i, i < j → rd l ((n + i : Nat) : Int) = rd x4 (i : Int)) ∧ Aside0 (Below w6.heap.size w6 wr)) (fun v41 _ => (4 - intOf v41).toNat)
      case atStart => exact ⟨0, by omega, rfl, ⟨fun i hi => absurd hi (Nat.not_lt_zero _)⟩, ⟨Below.refl _ _⟩⟩
      case round =>
        obtain ⟨j, hj, rfl, HF, HB⟩ := hrel
        have hjl : x4.length = 4 := hx4
        by_cases hlt : j < 4
        · obtain ⟨p, hp⟩ : ∃ p : Nat, n + j = p := ⟨_, rfl⟩
          have hpl : p < l.length := by have := HC1.out; omega
          have hj4 : j < x4.length := by omega
          obtain ⟨ad, e0, hx⟩ := Kd.at_int HR0.out (p : Int) (by omega) (by omega)
          cases e0
          obtain ⟨ad4, e4, hy⟩ := Kd.at_int (Kd.R_reads' H4.out).2.2 (j : Int) (by omega) (by omega)
          cases e4
          have HWR := Aside0.mk (below_step HB6.out HB.out)
          replace hx := (HWR.out.cell (World.block_lt_of_cell? _ _ hx)).trans hx
          replace hy := (HB.out.cell (World.block_lt_of_cell? _ _ hy)).trans hy
          rw [Int.toNat_natCast] at hx hy
          have hw2 : wrap64 ((n : Int) + (j : Int)) = (p : Int) := wrap64_sum hp (by have := HLN.out; clear hw1; omega)
          have hw3 : wrap64 ((j : Int) + 1) = ((j + 1 : Nat) : Int) := by clear hw1 hw2; unfold wrap64; omega
          have HFJ := Aside0.mk (show ∀ b : Int, rd l (p : Int) = b → rd x4 (j : Int) = b → ∀ i, i < j + 1 → rd l ((n + i : Nat) : Int) = rd x4 (i : Int) from fun b h1 h2 i hi => by
            rcases Nat.lt_or_ge i j with h | h
            · exact HF.out i h
            · obtain rfl : i = j := by omega
              rw [hp, h1, h2])
          have HNE := Aside0.mk (show rd l (p : Int) ≠ rd x4 (j : Int) → x4 ≠ (l.drop n).take 4 from fun h => four_not (i := j) HX4.out (by have := HC1.out; clear hw1 hw2 hw3; omega) hlt (by rw [hp]; exact h))
          have HP := Aside0.mk hp
          have HLT := Aside0.mk hlt
          clear hp hlt
          generalize rd l (p : Int) = b1 at *
          generalize rd x4 (j : Int) = b2 at *
          by_cases hb : b1 = b2
          · subst hb
            have hbb : (b1 != b1) = false := by simp
            go_wp2
            go_roundw
            case rel => exact ⟨j + 1, HLT.out, rfl, ⟨HFJ.out b1 rfl rfl⟩, HB⟩
            case measure => simp [intOf]; have := HLT.out; clear hw1 hw2 hw3; omega
          · have hbb : (b1 != b2) = true := bne_iff_ne.mpr hb
            have hP : P = ([], 0, 11) := by rw [HO2.out, if_neg (HNE.out hb)]
            subst hP
            clear hb
            go_wp2
            go_ret3
            exact ⟨_, rfl, Kd.R_nil _ _ _ _ _, HWR.out⟩
        · obtain rfl : j = 4 := by omega
          have hP : P = (d, n + 4, 0) := by rw [HO2.out, if_pos (four_all HX4.out (by have := HC1.out; clear hw1; omega) HF.out)]
          subst hP
          have hw2 : wrap64 ((n : Int) + 4) = ((n + 4 : Nat) : Int) := by have h1 := HLN.out; have h2 := HBT.out; clear hw1; unfold wrap64; omega
          have HWR := Aside0.mk (below_step HB6.out HB.out)
          go_wp2
          go_ret3
          exact ⟨_, rfl, Kd.R_below HR6.out HB.out, HWR.out⟩
  · have hP : P = ([], 0, er) := by have h := HO.out; rw [if_pos c0] at h; exact h
    subst hP
    have c0b : (er != 0) = true := bne_iff_ne.mpr c0
    go_wp2_with (fail)
    go_ret3
    exact ⟨_, rfl, Kd.R_nil _ _ _ _ _, HBW.out⟩
end Go.Proofs.Ytehjbhnlbjbhfaa.Wire
-- PlainT
namespace Go.Proofs.Ytehjbhnlbjbhfaa.Wire
open Go Go.RowKit
set_option linter.unusedVariables false
theorem u64w (n : Int) : IntKind.u64.wrap n = n % 18446744073709551616 := by simp [IntKind.wrap, IntKind.bits, IntKind.signed]
theorem wf_u8 {a : Int} (h : (Lit.int .u8 a).wf = true) : 0 ≤ a ∧ a < 256 := by
  simp only [Lit.wf, Bool.and_eq_true, decide_eq_true_eq] at h
  rw [show IntKind.u8.min = 0 from by decide, show IntKind.u8.max = 255 from by decide] at h
  omega
end Go.Proofs.Ytehjbhnlbjbhfaa.Wire
-- PlainW
namespace Go.Proofs.Ytehjbhnlbjbhfaa.Wire
open Go Go.RowKit Go.Proofs.YtehjbhnlbjbhfaaW.PrintWords Go.Proofs.YtehjbhnlbjbhfaaW.PrintLast Go.Proofs.YtehjbhnlbjbhfaaW.PrintMore
set_option linter.unusedVariables false
theorem enc_small (f : Nat) {n : Nat} (h : n < 128) : enc f n = [(n : Int)] := by
  cases f with
  | zero => rfl
  | succ f => unfold enc; rw [if_pos h]
theorem enc_big (f : Nat) {n : Nat} (h : ¬ n < 128) : enc (f + 1) n = (128 + (n : Int) % 128) :: enc f (n / 128) := by
  show (if n < 128 then _ else _) = _
  rw [if_neg h]
theorem div_lt {f n : Nat} (h : n < 128 ^ (f + 1 + 1)) : n / 128 < 128 ^ (f + 1) := by
  rw [Nat.pow_succ] at h
  exact (Nat.div_lt_iff_lt_mul (by decide)).2 h
theorem enc_bs (f : Nat) : ∀ n, n < 128 ^ (f + 1) → Bs (enc f n) := by
  induction f with
  | zero => intro n h x hx; simp [enc] at hx; omega
  | succ f ih =>
    intro n h x hx
    by_cases c : n < 128
    · rw [enc_small _ c] at hx; simp at hx; omega
    · rw [enc_big _ c] at hx
      rcases List.mem_cons.1 hx with rfl | hx
      · omega
      · exact ih _ (div_lt h) x hx
theorem pow10 {n : Nat} (h : n < 18446744073709551616) : n < 128 ^ (9 + 1) := Nat.lt_trans h (by decide)
theorem enc64_bs {n : Nat} (h : n < 18446744073709551616) : Bs (enc 9 n) := enc_bs 9 n (pow10 h)
theorem Bs.app {a b : List Int} (ha : Bs a) (hb : Bs b) : Bs (a ++ b) := fun x hx => (List.mem_append.1 hx).elim (ha x) (hb x)
theorem four_bs (a : Int) : Bs (fourP a) := by intro x hx; simp [fourP] at hx; omega
theorem four_len (a : Int) : (fourP a).length = 4 := rfl
def recP (l : List Int) : List Int := enc 9 l.length ++ l
def sealP (l : List Int) : List Int := recP l ++ fourP (sumP (recP l))
theorem rec_bs {l : List Int} (h : Bs l) (hl : l.length < 18446744073709551616) : Bs (recP l) := (enc64_bs hl).app h
theorem seal_bs {l : List Int} (h : Bs l) (hl : l.length < 18446744073709551616) : Bs (sealP l) := (rec_bs h hl).app (four_bs _)
theorem seal_len (l : List Int) : (sealP l).length = (enc 9 l.length).length + l.length + 4 := by unfold sealP recP; rw [List.length_append, List.length_append]; rfl
theorem numGo_enc (r : List Int) : ∀ (f i n acc : Nat), i + f = 9 → n < 128 ^ (f + 1) → (0 < n ∨ i = 0) → acc + n * 128 ^ i < 18446744073709551616 → numGo i acc (enc f n ++ r) = (acc + n * 128 ^ i, i + (enc f n).length, 0) := by
  intro f
  induction f with
  | zero =>
    intro i n acc hi hn h0 h9
    obtain rfl : i = 9 := by omega
    have h1 : n ≤ 1 := by
      rcases Nat.lt_or_ge 1 n with h | h
      · exfalso
        have h2 : 2 * 128 ^ 9 ≤ n * 128 ^ 9 := Nat.mul_le_mul_right _ h
        have h3 : 2 * 128 ^ 9 = 18446744073709551616 := by decide
        omega
      · exact h
    rw [enc_small 0 (show n < 128 by omega), List.singleton_append, num_last (by rw [Int.toNat_natCast]; omega) (by omega) (by omega), Int.toNat_natCast, Nat.mod_eq_of_lt (show n < 128 by omega)]
    rfl
  | succ f ih =>
    intro i n acc hi hn h0 h9
    by_cases c : n < 128
    · rw [enc_small _ c, List.singleton_append, num_last (by omega) (by omega) (by omega), Int.toNat_natCast, Nat.mod_eq_of_lt c]
      rfl
    · have ht : (128 + (n : Int) % 128).toNat % 128 = n % 128 := by omega
      have hs : acc + n % 128 * 128 ^ i + n / 128 * 128 ^ (i + 1) = acc + n * 128 ^ i := by
        have h1 : n * 128 ^ i = (n % 128 + 128 * (n / 128)) * 128 ^ i := by rw [Nat.mod_add_div]
        rw [h1, Nat.add_mul, Nat.pow_succ, Nat.mul_comm 128 (n / 128), Nat.mul_assoc (n / 128) 128, Nat.mul_comm 128 (128 ^ i), Nat.add_assoc]
      rw [enc_big f c, List.cons_append, num_more (by omega) (by omega) (by omega), ht, ih (i + 1) (n / 128) _ (by omega) (div_lt hn) (by omega) (by rw [hs]; exact h9), hs, List.length_cons]
      refine Prod.ext rfl (Prod.ext ?_ rfl)
      show i + 1 + (enc f (n / 128)).length = i + ((enc f (n / 128)).length + 1)
      omega
theorem num_enc (n : Nat) (r : List Int) (h : n < 18446744073709551616) : num (enc 9 n ++ r) = (n, (enc 9 n).length, 0) := by
  have h1 := numGo_enc r 9 0 n 0 rfl (pow10 h) (.inr rfl) (by omega)
  unfold num
  rw [h1]
  rw [Nat.pow_zero, Nat.mul_one, Nat.zero_add, Nat.zero_add]
theorem numGo_cut : ∀ (f i n acc m : Nat), i + f = 9 → n < 128 ^ (f + 1) → (0 < n ∨ i = 0) → m < (enc f n).length → numGo i acc ((enc f n).take m) = (0, 0, 2) := by
  intro f
  induction f with
  | zero =>
    intro i n acc m hi hn h0 hm
    obtain rfl : m = 0 := by simp [enc] at hm; exact hm
    rfl
  | succ f ih =>
    intro i n acc m hi hn h0 hm
    cases m with
    | zero => rfl
    | succ m =>
      by_cases c : n < 128
      · rw [enc_small _ c] at hm; simp at hm
      · rw [enc_big f c] at hm ⊢
        rw [List.take_succ_cons, num_more (by omega) (by omega) (by omega)]
        exact ih (i + 1) _ _ m (by omega) (div_lt hn) (by omega) (by simpa using hm)
theorem num_cut (n m : Nat) (h : n < 18446744073709551616) (hm : m < (enc 9 n).length) : num ((enc 9 n).take m) = (0, 0, 2) :=
  numGo_cut 9 0 n 0 m rfl (pow10 h) (.inr rfl) hm
end Go.Proofs.Ytehjbhnlbjbhfaa.Wire
-- PlainX
namespace Go.Proofs.Ytehjbhnlbjbhfaa.Wire
open Go Go.RowKit Go.Proofs.YtehjbhnlbjbhfaaW.PrintWords Go.Proofs.YtehjbhnlbjbhfaaW.PrintLast Go.Proofs.YtehjbhnlbjbhfaaW.PrintMore
set_option linter.unusedVariables false
theorem enc_short {n : Nat} (h : n < 16384) : (enc 9 n).length ≤ 2 := by
  by_cases c : n < 128
  · rw [enc_small _ c]; simp
  · rw [enc_big 8 c, enc_small _ (by omega)]; simp
theorem bytes_rec (l r : List Int) (hl : l.length ≤ 8192) : bytesP (recP l ++ r) 0 8192 = (l, (recP l).length, 0) := by
  unfold bytesP recP
  rw [List.drop_zero, List.append_assoc, num_enc _ _ (by omega)]
  simp only [ne_eq, not_true_eq_false, if_false]
  rw [if_neg (by rw [if_neg (by omega)]; omega), if_neg (by simp only [List.length_append]; omega)]
  refine Prod.ext ?_ (Prod.ext ?_ rfl)
  · show (List.drop (0 + (enc 9 l.length).length) (enc 9 l.length ++ (l ++ r))).take l.length = l
    rw [Nat.zero_add, List.drop_left, List.take_left]
  · show 0 + (enc 9 l.length).length + l.length = (enc 9 l.length ++ l).length
    rw [List.length_append]; omega
theorem rec_len (l : List Int) (hl : l.length ≤ 8192) : (recP l).length ≤ 8194 := by
  have := enc_short (show l.length < 16384 by omega)
  unfold recP; rw [List.length_append]; omega
theorem take_rec (l r : List Int) (hl : l.length ≤ 8192) : (recP l ++ r).take 8208 = recP l ++ r.take (8208 - (recP l).length) := by
  have := rec_len l hl
  rw [List.take_append, List.take_of_length_le (by omega)]
theorem open_seal (l r : List Int) (hl : l.length ≤ 8192) : openP (sealP l ++ r) = (l, (sealP l).length, 0) := by
  unfold openP
  have e : sealP l ++ r = recP l ++ (fourP (sumP (recP l)) ++ r) := by unfold sealP; rw [List.append_assoc]
  rw [e, take_rec l _ hl, bytes_rec l _ hl]
  simp only [ne_eq, not_true_eq_false, if_false]
  have h4 := four_len (sumP (recP l))
  rw [if_neg (by simp only [List.length_append]; omega), if_pos (by rw [List.take_left, List.drop_left, List.take_append_of_le_length (by omega), List.take_of_length_le (by omega)])]
  refine Prod.ext rfl (Prod.ext ?_ rfl)
  show (recP l).length + 4 = (sealP l).length
  unfold sealP; rw [List.length_append, h4]
theorem open_cut (l : List Int) (hl : l.length ≤ 8192) (m : Nat) (hm : m < (sealP l).length) : openP ((sealP l).take m) = ([], 0, 2) := by
  have hs := seal_len l
  have hr := rec_len l hl
  have h4 := four_len (sumP (recP l))
  have hrl : (recP l).length = (enc 9 l.length).length + l.length := by unfold recP; rw [List.length_append]
  unfold openP
  rw [List.take_of_length_le (show ((sealP l).take m).length ≤ 8208 by rw [List.length_take]; omega)]
  rcases Nat.lt_or_ge m (enc 9 l.length).length with h | h
  · have e : (sealP l).take m = (enc 9 l.length).take m := by
      unfold sealP recP; rw [List.append_assoc, List.take_append_of_le_length (by omega)]
    have hb : bytesP ((sealP l).take m) 0 8192 = ([], 0, 2) := by
      unfold bytesP
      rw [List.drop_zero, e, num_cut _ m (by omega) h]
      rfl
    rw [hb]; rfl
  · rcases Nat.lt_or_ge m (recP l).length with h2 | h2
    · have e : (sealP l).take m = enc 9 l.length ++ l.take (m - (enc 9 l.length).length) := by
        unfold sealP; rw [List.take_append_of_le_length (by omega)]
        unfold recP; rw [List.take_append, List.take_of_length_le h]
      have hb : bytesP ((sealP l).take m) 0 8192 = ([], 0, 2) := by
        unfold bytesP
        rw [List.drop_zero, e, num_enc _ _ (by omega)]
        simp only [ne_eq, not_true_eq_false, if_false]
        rw [if_neg (by rw [if_neg (by omega)]; omega), if_pos (by simp only [List.length_append, List.length_take]; omega)]
      rw [hb]; rfl
    · have e : (sealP l).take m = recP l ++ (fourP (sumP (recP l))).take (m - (recP l).length) := by
        unfold sealP; rw [List.take_append, List.take_of_length_le h2]
      rw [e, bytes_rec l _ hl]
      simp only [ne_eq, not_true_eq_false, if_false]
      rw [if_pos (by simp only [List.length_append, List.length_take]; omega)]
end Go.Proofs.Ytehjbhnlbjbhfaa.Wire
-- PlainY
namespace Go.Proofs.Ytehjbhnlbjbhfaa.Wire
open Go Go.RowKit Go.Proofs.YtehjbhnlbjbhfaaW.PrintWords Go.Proofs.YtehjbhnlbjbhfaaW.PrintLast Go.Proofs.YtehjbhnlbjbhfaaW.PrintMore
set_option linter.unusedVariables false
theorem num_ten (n : Nat) (r : List Int) : (numGo 10 n r).2.2 ≠ 0 := by
  cases r with
  | nil => simp [numGo]
  | cons x r => rw [num_long (.inl rfl)]; decide
theorem num_back : ∀ (r : List Int) (i acc : Nat), Bs r → i ≤ 9 → (numGo i acc r).2.2 = 0 → ∃ m, (numGo i acc r).1 = acc + m * 128 ^ i ∧ enc (9 - i) m = r.take ((numGo i acc r).2.1 - i) ∧ (0 < m ∨ i = 0) ∧ i < (numGo i acc r).2.1 := by
  intro r
  induction r with
  | nil => intro i acc _ _ h; simp [numGo] at h
  | cons x r ih =>
    intro i acc hb hi h
    have hx := hb x (List.mem_cons_self ..)
    obtain ⟨b, rfl⟩ := Int.eq_ofNat_of_zero_le hx.1
    by_cases c : i = 10 ∨ (i = 9 ∧ 1 < (b : Int).toNat % 128)
    · rw [num_long c] at h; exact absurd h (by decide)
    · by_cases d : (b : Int) = 0 ∧ 0 < i
      · rw [num_form c d] at h; exact absurd h (by decide)
      · by_cases e : (b : Int) < 128
        · rw [num_last c d e, Int.toNat_natCast, Nat.mod_eq_of_lt (show b < 128 by omega)]
          refine ⟨b, rfl, ?_, by omega, by show i < i + 1; omega⟩
          rw [enc_small _ (show b < 128 by omega)]
          show _ = List.take (i + 1 - i) _
          rw [Nat.add_sub_cancel_left]; rfl
        · rw [num_more c d e, Int.toNat_natCast] at h ⊢
          have hi9 : i < 9 := by
            rcases Nat.lt_or_ge i 9 with h9 | h9
            · exact h9
            · obtain rfl : i = 9 := by omega
              exact absurd h (num_ten _ _)
          obtain ⟨m, h1, h2, h3, h4⟩ := ih (i + 1) _ (fun y hy => hb y (List.mem_cons_of_mem _ hy)) (by omega) h
          have hm : 0 < m := by omega
          refine ⟨b % 128 + 128 * m, ?_, ?_, by omega, by omega⟩
          · rw [h1, Nat.pow_succ, Nat.add_mul, Nat.add_assoc, Nat.mul_comm (128 ^ i) 128, ← Nat.mul_assoc, Nat.mul_comm m 128]
          · obtain ⟨f, hf⟩ : ∃ f, 9 - i = f + 1 := ⟨8 - i, by omega⟩
            rw [hf, enc_big f (by omega)]
            obtain ⟨k, hk⟩ : ∃ k, (numGo (i + 1) (acc + b % 128 * 128 ^ i) r).2.1 - i = k + 1 := ⟨(numGo (i + 1) (acc + b % 128 * 128 ^ i) r).2.1 - i - 1, by omega⟩
            rw [hk, List.take_succ_cons, show (b % 128 + 128 * m) / 128 = m by omega, show f = 9 - (i + 1) by omega, h2, show (numGo (i + 1) (acc + b % 128 * 128 ^ i) r).2.1 - (i + 1) = k by omega]
            congr 1
            omega
theorem num_canon {r : List Int} (hb : Bs r) (h : (num r).2.2 = 0) : enc 9 (num r).1 = r.take (num r).2.1 := by
  obtain ⟨m, h1, h2, _, _⟩ := num_back r 0 0 hb (by decide) h
  unfold num at h ⊢
  rw [h1, Nat.pow_zero, Nat.mul_one, Nat.zero_add]
  exact h2
theorem num_le {r : List Int} (h : (num r).2.2 = 0) : (num r).2.1 ≤ r.length ∧ 0 < (num r).2.1 := by
  have := numGo_ok r 0 0 h
  unfold num; omega
end Go.Proofs.Ytehjbhnlbjbhfaa.Wire
-- PlainZ
namespace Go.Proofs.Ytehjbhnlbjbhfaa.Wire
open Go Go.RowKit Go.Proofs.YtehjbhnlbjbhfaaW.PrintWords Go.Proofs.YtehjbhnlbjbhfaaW.PrintLast Go.Proofs.YtehjbhnlbjbhfaaW.PrintMore
set_option linter.unusedVariables false
theorem bytes_canon {s d : List Int} {a : Nat} (hb : Bs s) (h : bytesP s 0 8192 = (d, a, 0)) : d.length ≤ 8192 ∧ a ≤ s.length ∧ recP d = s.take a := by
  unfold bytesP at h
  rw [List.drop_zero] at h
  by_cases c0 : (num s).2.2 ≠ 0
  · rw [if_pos c0] at h; exact absurd (congrArg (fun z => z.2.2) h) c0
  · rw [if_neg c0] at h
    have c0' : (num s).2.2 = 0 := Decidable.not_not.1 c0
    have hc := num_canon hb c0'
    have hle := num_le c0'
    generalize num s = q at *
    by_cases c1 : (if (8192 : Int) < 0 then (0 : Int) else 8192) < (q.1 : Int)
    · rw [if_pos c1] at h; exact absurd (show (4 : Int) = 0 from congrArg (fun z => z.2.2) h) (by decide)
    · rw [if_neg c1] at h
      by_cases c2 : s.length < 0 + q.2.1 + q.1
      · rw [if_pos c2] at h; exact absurd (show (2 : Int) = 0 from congrArg (fun z => z.2.2) h) (by decide)
      · rw [if_neg c2] at h
        have h1 : (s.drop (0 + q.2.1)).take q.1 = d := congrArg (fun z => z.1) h
        have h2 : 0 + q.2.1 + q.1 = a := congrArg (fun z => z.2.1) h
        have c1' : q.1 ≤ 8192 := by rw [if_neg (by decide)] at c1; omega
        rw [Nat.zero_add] at h1 h2
        have hl : d.length = q.1 := by rw [← h1, List.length_take, List.length_drop]; omega
        refine ⟨by omega, by omega, ?_⟩
        unfold recP
        rw [hl, hc, ← h1, ← h2, List.take_add]
theorem open_canon {l d : List Int} {n : Nat} (hb : Bs l) (h : openP l = (d, n, 0)) : d.length ≤ 8192 ∧ n ≤ l.length ∧ sealP d = l.take n := by
  unfold openP at h
  have hbc := fun d a => @bytes_canon (l.take 8208) d a (hb.take 8208)
  generalize bytesP (l.take 8208) 0 8192 = q at *
  obtain ⟨d', a, e⟩ := q
  simp only at h hbc
  by_cases c0 : e ≠ 0
  · rw [if_pos c0] at h
    exact absurd (congrArg (fun z => z.2.2) h) c0
  · rw [if_neg c0] at h
    have c0' : e = 0 := Decidable.not_not.1 c0
    subst c0'
    by_cases c1 : l.length < a + 4
    · rw [if_pos c1] at h
      exact absurd (show (2 : Int) = 0 from congrArg (fun z => z.2.2) h) (by decide)
    · rw [if_neg c1] at h
      by_cases c2 : fourP (sumP (l.take a)) = (l.drop a).take 4
      · rw [if_pos c2] at h
        have h1 : a + 4 = n := congrArg (fun z => z.2.1) h
        have h2 : d' = d := congrArg (fun z => z.1) h
        subst h2
        obtain ⟨b1, b2, b3⟩ := hbc d' a rfl
        rw [List.length_take] at b2
        refine ⟨b1, by omega, ?_⟩
        unfold sealP
        rw [b3, List.take_take, Nat.min_eq_left (by omega), c2, ← h1, List.take_add]
      · rw [if_neg c2] at h
        exact absurd (show (11 : Int) = 0 from congrArg (fun z => z.2.2) h) (by decide)
end Go.Proofs.Ytehjbhnlbjbhfaa.Wire
-- AllC
namespace Go.Proofs.Ytehjbhnlbjbhfaa.Wk
open Go Go.RowKit Go.Proofs.YtehjbhnlbjbhfaaW.PrintWords Go.Proofs.YtehjbhnlbjbhfaaW.PrintLast Go.Proofs.YtehjbhnlbjbhfaaW.PrintMore Go.Proofs.Ytehjbhnlbjbhfaa.Wire
set_option linter.unusedVariables false
theorem info32 : (Try.prog.info? 32).map (fun i => (i.zero, i.size, i.bytes)) = some (some (.slice none 0 0), 1, 24) := by kernel_rfl
def allGo : Nat → List Int → Nat → List (List Int) × Nat
  | 0, _, n => ([], n)
  | f + 1, l, n => if (openP (l.drop n)).2.2 ≠ 0 then ([], n) else ((openP (l.drop n)).1 :: (allGo f l (n + (openP (l.drop n)).2.1)).1, (allGo f l (n + (openP (l.drop n)).2.1)).2)
def allP (l : List Int) : List (List Int) × Nat := allGo (l.length + 1) l 0
abbrev KdB : Kd (List Int) := Kd.slice 5 (Kd.int .u8)
def AS (w : World) (l0 : List Int) (f n : Nat) (outs : List (List Int)) (v : Value) (W : World) : Prop :=
  Kd.R KdB 32 W w.heap.size (fun _ => True) v outs ∧ Below w.heap.size w W
theorem AS.below {w : World} {l0 : List Int} {f n : Nat} {outs : List (List Int)} {v : Value} {W W' : World} (h : AS w l0 f n outs v W) (hb : Below W.heap.size W W') : AS w l0 f n outs v W' := ⟨Kd.R_below h.1 hb, below_step h.2 hb⟩
def AP (l0 : List Int) (f n : Nat) (outs : List (List Int)) : Prop := n ≤ l0.length ∧ l0.length - n < f ∧ allP l0 = (outs ++ (allGo f l0 n).1, (allGo f l0 n).2) ∧ outs.length ≤ n
theorem AP.step {l0 : List Int} {f n : Nat} {outs : List (List Int)} (h : AP l0 (f + 1) n outs) (hs : Bs l0) {d : List Int} {k : Nat} (he : openP (l0.drop n) = (d, k, 0)) : AP l0 f (n + k) (outs ++ [d]) ∧ n + k ≤ l0.length := by
  obtain ⟨h1, h2, h3, h4⟩ := h
  obtain ⟨_, a2, a3⟩ := open_canon (hs.drop n) he
  have hsl := seal_len d
  rw [a3, List.length_take] at hsl
  rw [List.length_drop] at a2 hsl
  have hk : 4 ≤ k := by omega
  refine ⟨⟨by omega, by omega, ?_, by rw [List.length_append, List.length_singleton]; omega⟩, by omega⟩
  rw [h3]
  have e : allGo (f + 1) l0 n = (d :: (allGo f l0 (n + k)).1, (allGo f l0 (n + k)).2) := by
    rw [allGo, he]
    simp
  rw [e]
  simp
theorem AP.stop {l0 : List Int} {f n : Nat} {outs : List (List Int)} (h : AP l0 (f + 1) n outs) (he : (openP (l0.drop n)).2.2 ≠ 0) : allP l0 = (outs, n) := by
  obtain ⟨h1, h2, h3, h4⟩ := h
  rw [h3, allGo, if_pos he]
  simp
set_option maxHeartbeats 8000000 in
set_option maxRecDepth 100000 in
theorem All_calls (A0 : Option Addr) (c0 : Nat) (l0 : List Int) (w : World) (hr0 : Kd.C (Kd.int .u8) w A0 l0.length l0) (hc0 : l0.length ≤ c0) (hs : Bs l0) (hlen : l0.length < 1000000000) :
    Calls Try.prog 78 #[.slice A0 l0.length c0] w fun e w' => ∃ v, e = .returned (.tuple #[v, .int .i64 ((allP l0).2 : Int)]) ∧ Kd.R KdB 32 w' w.heap.size (fun _ => True) v (allP l0).1 ∧ Below w.heap.size w w' := by
  have HR0 := Aside0.mk hr0
  have HC0 := Aside0.mk hc0
  have HS := Aside0.mk hs
  have HL := Aside0.mk hlen
  obtain ⟨i0, hi0, _, hz1, _⟩ := info_parts Go.Proofs.Ytehjbhnlbjbhfaa.Wire.info5
  have HINF := Aside0.mk (And.intro hi0 hz1)
  clear hi0 hz1 hr0 hc0 hs hlen
  have H0 := Aside0.mk (show AS w l0 (l0.length + 1) 0 [] (.slice none 0 0) w from ⟨Kd.R_nil _ _ _ _ _, Below.refl _ _⟩)
  have P0 := Aside0.mk (show AP l0 (l0.length + 1) 0 [] from ⟨Nat.zero_le _, by omega, by simp [allP], Nat.le_refl _⟩)
  go_enter Try.func78, Try.ntmps78
  go_wp2_with (fail)
  go_loopg [4, 5] (l0.length + 1) (fun f v4 v5 wr => ∃ (n : Nat) (outs : List (List Int)) (A : Option Addr) (c : Nat), v4 = .slice A outs.length c ∧ v5 = .int .i64 (n : Int) ∧ Aside0 (AS w l0 f n outs (.slice A outs.length c) wr) ∧ Aside0 (AP l0 f n outs))
  case atStart => exact ⟨0, [], none, 0, rfl, rfl, H0, P0⟩
  case round =>
    obtain ⟨n, outs, A, c, rfl, rfl, H, P⟩ := hrel
    clear H0 P0
    obtain ⟨f, rfl⟩ : ∃ f, gk = f + 1 := ⟨gk - 1, by have := P.out.2.1; omega⟩
    have HCUT := cut_from (P := Try.prog) 32 5 .i64 Try.underlying32 HINF.out.1 1 HINF.out.2 A0 l0.length c0 (n : Int) (by omega) (by have := P.out.1; omega)
    have HCX := Aside0.mk (Kd.C_drop (c := c0) (Kd.C_below HR0.out H.out.2) P.out.1 HC0.out)
    rw [Int.toNat_natCast] at HCUT
    rw [show n * (Kd.int IntKind.u8).sz = n * 1 from rfl] at HCX
    generalize (if c0 = n then A0 else A0.map (·.add (n * 1))) = AX at HCUT HCX
    have HXL := Aside0.mk (show (l0.drop n).length = l0.length - n from List.length_drop)
    rw [← HXL.out] at HCUT
    have HXC := Aside0.mk (show (l0.drop n).length ≤ c0 - n by have h1 := HC0.out; have h2 := HXL.out; omega)
    have HXS := Aside0.mk (HS.out.drop n)
    have HXB := Aside0.mk (show (l0.drop n).length < 140737488355328 by have h1 := HL.out; have h2 := HXL.out; omega)
    obtain ⟨X, hX⟩ : ∃ X, l0.drop n = X := ⟨_, rfl⟩
    have HX := Aside0.mk hX
    rw [hX] at HCUT HCX HXL HXC HXS HXB
    clear hX
    by_cases eo : (openP X).2.2 = 0
    · obtain ⟨dd, k, hon⟩ : ∃ dd k, openP X = (dd, k, 0) := ⟨(openP X).1, (openP X).2.1, by rw [← eo]⟩
      have HON := Aside0.mk hon
      have PS := Aside0.mk (P.out.step HS.out (by rw [HX.out]; exact hon))
      clear hon eo
      go_wp2_with (fail)
      refine (Open_calls AX (c0 - n) X _ HCX.out HXC.out HXS.out HXB.out).mono ?_
      rw [HON.out]
      rintro e w5 ⟨v5, rfl, hR, hB⟩
      obtain ⟨A5, c5, rfl⟩ := Kd.R_slice hR
      have HM := Aside0.mk (show Kd.M KdB w5 w.heap.size (fun k => wr.heap.size ≤ k) dd [.slice A5 dd.length c5] from ⟨_, rfl, Kd.R_lower (Kd.R_mono (Kd.R_bound hR) (fun k hk => hk.2.1)) H.out.2.size⟩)
      have HF := Aside0.mk (Kd.fresh_ok H.out.1)
      have H1 := Aside0.mk (H.out.below hB)
      have HLN := Aside0.mk (show (outs.length + 1) * 24 ≤ 140737488355328 by have h1 := HL.out; have h2 := P.out.2.2.2; have h3 := P.out.1; omega)
      have HW := Aside0.mk (show wrap64 ((n : Int) + (k : Int)) = ((n + k : Nat) : Int) by
        have h1 := PS.out.2; have h2 := HL.out
        unfold wrap64; omega)
      clear hR hB H HCUT
      go_wp2_with (first | ((with_reducible refine gate_builtin (b := .append) (xs := #[.tmp 21, .tmp 23]) rfl ?_); at_builtin; refine Kd.R_append KdB (w0 := w) w.heap.size rfl (.tmp 21) (.tmp 23) 46 32 (.slice none 0 0) 24 rfl Try.underlying46 info32 rfl (by decide) (by omega) (.slice A outs.length c) outs dd [.slice A5 dd.length c5] (fun _ => True) (fun k => wr.heap.size ≤ k) rfl rfl HM.out (fun k hk => ⟨trivial, HF.out k hk⟩) (fun _ _ => trivial) H1.out.1 H1.out.2 H1.out.2.size HLN.out ?_; intro v1 w7 h1 h2 h3 _; have HR7 := Aside0.mk h1; have HB7 := Aside0.mk h2; clear h1 h2 h3))
      obtain ⟨A7, c7, e7⟩ := Kd.R_slice HR7.out
      subst e7
      rw [HW.out]
      go_roundg f
      case rel => exact ⟨n + k, outs ++ [dd], A7, c7, rfl, rfl, ⟨HR7.out, HB7.out⟩, ⟨PS.out.1⟩⟩
      case measure => omega
    · have HE := Aside0.mk eo
      have PS := Aside0.mk (P.out.stop (by rw [HX.out]; exact eo))
      have heo3 : ((openP X).2.2 != (0 : Int)) = true := by simpa using eo
      have heo2 : ((openP X).2.2 == (0 : Int)) = false := by simpa using eo
      clear eo
      go_wp2_with (fail)
      refine (Open_calls AX (c0 - n) X _ HCX.out HXC.out HXS.out HXB.out).mono ?_
      rintro e w5 ⟨v5, rfl, hR, hB⟩
      have H1 := Aside0.mk (H.out.below hB)
      clear hR hB H HCUT
      generalize (openP X).2.2 = er at *
      go_wp2_with (fail)
      go_ret2
      exact ⟨_, by rw [PS.out]; rfl, by rw [PS.out]; exact H1.out.1, H1.out.2⟩
theorem bb_get {w : World} {A : Option Addr} {n : Nat} {ls : List (List Int)} (h : Kd.C KdB w A n ls) (i : Nat) (hi : i < n) : ∃ ad A1 c1, A = some ad ∧ (ls.getD i []).length ≤ c1 ∧ Kd.C (Kd.int .u8) w A1 (ls.getD i []).length (ls.getD i []) ∧ w.cell? (ad.add i) = some (.slice A1 (ls.getD i []).length c1) := by
  obtain ⟨ad, cs, hA, hl, ⟨A1, c1, rfl, hc, hC⟩, hcell⟩ := Kd.C_get h [] (i : Int) (by omega) (by omega)
  rw [Int.toNat_natCast] at hc hC hcell
  refine ⟨ad, A1, c1, hA, hc, hC, ?_⟩
  have := hcell 0 _ rfl
  rw [show i * KdB.sz + 0 = i from by show i * 1 + 0 = i; omega] at this
  exact this
end Go.Proofs.Ytehjbhnlbjbhfaa.Wk
-- PDiskBeginsx0
namespace Go.Proofs.Ytehjbhnlbjbhfaa.PDiskBegins
open Go.RowKit Go.Proofs.YtehjbhnlbjbhfaaW.PrintWords Go.Proofs.YtehjbhnlbjbhfaaW.PrintLast Go.Proofs.YtehjbhnlbjbhfaaW.PrintMore
attribute [local go_sem] max2_int min2_int max_two min_two
set_option linter.unusedVariables false
set_option linter.unusedSimpArgs false
def errW : Option Int → Value
  | none => .nilIface
  | some c => .iface 0 (.int .i64 c)
theorem errW_none : errW none = .nilIface := rfl
theorem errW_some (c : Int) : errW (some c) = .iface 0 (.int .i64 c) := rfl
theorem info3 : (Try.prog.info? 3).map (fun i => (i.zero, i.size, i.bytes)) = some (some (.int .i64 0), 1, 8) := by kernel_rfl
theorem info5 : (Try.prog.info? 5).map (fun i => (i.zero, i.size, i.bytes)) = some (some (.int .u8 0), 1, 1) := by kernel_rfl
structure S35 where
  f0 : Int
  f1 : Int
  f2 : Int
  f3 : (List Int)
  f4 : (List Int)
def z35 : S35 := ⟨(0 : Int), (0 : Int), (0 : Int), ([] : List Int), ([] : List Int)⟩
def rd_T35 (xs : List S35) (i : Int) : S35 := xs.getD i.toNat z35
def rd_L5 (xs : List (List S35)) (i : Int) : (List S35) := xs.getD i.toNat ([] : List S35)
end Go.Proofs.Ytehjbhnlbjbhfaa.PDiskBegins
-- DkP
namespace Go.Proofs.Ytehjbhnlbjbhfaa.PDiskBegins
open Go.RowKit Go.Proofs.YtehjbhnlbjbhfaaW.PrintWords Go.Proofs.YtehjbhnlbjbhfaaW.PrintLast Go.Proofs.YtehjbhnlbjbhfaaW.PrintMore
attribute [local go_sem] max2_int min2_int max_two min_two
set_option linter.unusedVariables false
set_option linter.unusedSimpArgs false
mutual
def towlinelaw05_short.l0 : Nat → Int → Int → List (List (S35)) → Int → Int → Option (Bool)
  | 0, _, _, _, _, _ => none
  | k + 1, x3, x4, x8, x9, x10 => if x10 < x9 then (if 0 ≤ x10 then (if x10 < (x8.length : Int) then (towlinelaw05_short.l1 k x3 x4 (rd_L5 x8 x10) 0 x8 x9 x10) else (none)) else (none)) else (if x4 ≤ 150 then (some (decide (x3 ≤ 16384))) else (some false))
def towlinelaw05_short.l1 : Nat → Int → Int → List (S35) → Int → List (List (S35)) → Int → Int → Option (Bool)
  | 0, _, _, _, _, _, _, _ => none
  | k + 1, x3, x4, x6, x7, x8, x9, x10 => if x7 < (x6.length : Int) then (if x4 ≤ 150 then (if x3 ≤ 16384 then (if 0 ≤ x7 then (towlinelaw05_short.l1 k (wrap64 (x3 + ((mn (((rd_T35 x6 x7).f3).length : Int) 16385) + (mn (((rd_T35 x6 x7).f4).length : Int) 16385)))) (wrap64 (x4 + 1)) x6 (wrap64 (x7 + 1)) x8 x9 x10) else (none)) else (towlinelaw05_short.l0 k x3 x4 x8 x9 (wrap64 (x10 + 1)))) else (towlinelaw05_short.l0 k x3 x4 x8 x9 (wrap64 (x10 + 1)))) else (towlinelaw05_short.l0 k x3 x4 x8 x9 (wrap64 (x10 + 1)))
end
def slices_Clone_byte_byte.f (l0 : List Int) : Option (List Int) := if l0.length < 140737488355328 then some l0 else none
set_option maxHeartbeats 8000000 in
set_option maxRecDepth 100000 in
theorem slices_Clone_byte_byte.calls (A0 : Option Addr) (c0 : Nat) (l0 : List Int) (r : List Int) (w : World) (hr0 : Kd.C (Kd.int .u8) w A0 l0.length l0) (hc0 : l0.length ≤ c0) (h : slices_Clone_byte_byte.f l0 = some r) :
    Calls Try.prog 14 #[.slice A0 l0.length c0] w fun e w' => ∃ v0_ : Value, e = .returned (v0_) ∧ Kd.R (Kd.int .u8) 5 w' w.heap.size (fun _ => True) v0_ r ∧ Below w.heap.size w w' := by
  unfold slices_Clone_byte_byte.f at h
  by_cases c1 : l0.length < 140737488355328
  · rw [if_pos c1] at h
    obtain rfl := Option.some.inj h
    clear h
    have LM := Aside0.mk c1
    clear c1
    have HR0 := Aside0.mk hr0
    have HC0 := Aside0.mk hc0
    clear hr0 hc0
    have HB := Aside0.mk (Below.refl w.heap.size w)
    cases A0 with
    | none =>
      have hn : l0 = [] := by
        cases l0 with
        | nil => rfl
        | cons a_ b_ => obtain ⟨ad, c, e, _⟩ := Kd.C_get HR0.out (0 : Int) 0 (by decide) (by simp); cases e
      subst hn
      have heq : ∀ W : World, (binOp .eql 32 (.slice none ([] : List Int).length c0) (.slice none 0 0)).run Try.prog W = .ok (.bool true) W := fun W => Lib.run_eql_slice_nil W 32 5 none _ _ _ _ Try.underlying32
      have heq2 : ∀ W : World, (binOp .eql 32 (.slice none 0 c0) (.slice none 0 0)).run Try.prog W = .ok (.bool true) W := fun W => Lib.run_eql_slice_nil W 32 5 none _ _ _ _ Try.underlying32
      go_enter Try.func14, Try.ntmps14
      go_wp2
      go_ret
      exact ⟨_, rfl, Kd.R_nil _ _ _ _ _, HB.out⟩
    | some ad =>
      have heq : ∀ W : World, (binOp .eql 32 (.slice (some ad) l0.length c0) (.slice none 0 0)).run Try.prog W = .ok (.bool false) W := fun W => Lib.run_eql_slice_nil W 32 5 (some ad) _ _ _ _ Try.underlying32
      obtain ⟨y1, Ny1⟩ : ∃ y_ : List Int, Aside0 (y_ = ([] : List Int)) := ⟨_, ⟨rfl⟩⟩
      have LM2 := Aside0.mk (show y1.length + l0.length < 140737488355328 by have := LM.out; rw [Ny1.out]; simpa using this)
      have Ny2 := Aside0.mk (show l0 = y1 ++ l0 by rw [Ny1.out]; rfl)
      go_enter Try.func14, Try.ntmps14
      go_wp2_with (first | ((with_reducible refine gate_dst (N := 5) rfl ?_); refine Kd.R_lit (Kd.int .u8) _ 5 ?hg (N := 5) ?hd (xs := ([] : List Int)) (inner := []) (ok := fun _ => True) (okp := fun _ => True) ?hr ?hp (fun _ hk => hk) trivial (Below.refl _ _) (Nat.le_refl _) (by simp) ?_; (case hd => rfl); (case hg => rfl); (case hr => first | (go_simp; done) | (go_simp; rfl)); (case hp => exact (Reps.none _ _)); intro va w4 ho5 hb hg_ hnew_; clear hg_ hnew_; (first | rw [← Ny1.out] at ho5 | (simp only [Int.reduceToNat] at ho5; rw [← Ny1.out] at ho5)); have n0_ := Aside0.mk (Kd.R_lower ho5 (below_size (by repeat (first | (with_reducible first | exact HB.out | apply below_alloc | apply pw_below_drewN | apply below_drew1) | exact HB.out)))); have n1_ := Aside0.mk (below_step (by repeat (first | (with_reducible first | exact HB.out | apply below_alloc | apply pw_below_drewN | apply below_drew1) | exact HB.out)) hb); clear HB; have HOa := n0_; have HB := n1_; clear n0_ n1_; clear hb ho5) | ((with_reducible refine gate_builtin (b := .append) (xs := #[.tmp 5, .tmp 6]) rfl ?_); at_builtin; refine Kd.R_append_rows (Kd.int .u8) (w0 := w) w.heap.size rfl (.tmp 5) (.tmp 6) 32 5 (.int .u8 0) 1 rfl Try.underlying32 info5 rfl (by decide) (by omega) va y1 l0 _ _ _ (fun _ => True) (fun _ => False) rfl rfl ?aO ?aR (fun _ _ h => h) (fun _ h => h.elim) ?aF ?aB ?aS ?aL ?_; (case aR => repeat (first | exact (Kd.C_below HR0.out HB.out) | (with_reducible refine Kd.C_alloc ?_ _) | (with_reducible refine Kd.C_drewN ?_ _) | (with_reducible refine Kd.C_drew ?_))); (case aB => exact (by repeat (first | (with_reducible first | exact HB.out | apply below_alloc | apply pw_below_drewN | apply below_drew1) | exact HB.out))); (case aF => exact (fun _ _ => trivial)); (case aO => exact (by (with_reducible repeat (first | apply Kd.R_alloc | apply Kd.R_drewN | apply Kd.R_drew)); exact HOa.out)); (case aS => exact (below_size (by repeat (first | (with_reducible first | exact HB.out | apply below_alloc | apply pw_below_drewN | apply below_drew1) | exact HB.out)))); (case aL => have := LM2.out; omega); intro vb w6 ho hb hg hat; rw [← Ny2.out] at ho; have n0_ := Aside0.mk (hb); have n1_ := Aside0.mk (ho); clear HB; clear HOa; have HB := n0_; have HOa := n1_; clear n0_ n1_; clear ho hb hg hat))
      go_ret
      exact ⟨_, rfl, by (with_reducible repeat (first | apply Kd.R_alloc | apply Kd.R_drewN | apply Kd.R_drew)); exact HOa.out, by repeat (first | (with_reducible first | exact HB.out | apply below_alloc | apply pw_below_drewN | apply below_drew1) | exact HB.out)⟩
  · rw [if_neg c1] at h; cases h
def slices_Clone_int_int.f (l0 : List Int) : Option (List Int) := if l0.length < 17592186044416 then some l0 else none
set_option maxHeartbeats 8000000 in
set_option maxRecDepth 100000 in
theorem slices_Clone_int_int.calls (A0 : Option Addr) (c0 : Nat) (l0 : List Int) (r : List Int) (w : World) (hr0 : Kd.C (Kd.int .i64) w A0 l0.length l0) (hc0 : l0.length ≤ c0) (h : slices_Clone_int_int.f l0 = some r) :
    Calls Try.prog 15 #[.slice A0 l0.length c0] w fun e w' => ∃ v0_ : Value, e = .returned (v0_) ∧ Kd.R (Kd.int .i64) 3 w' w.heap.size (fun _ => True) v0_ r ∧ Below w.heap.size w w' := by
  unfold slices_Clone_int_int.f at h
  by_cases c1 : l0.length < 17592186044416
  · rw [if_pos c1] at h
    obtain rfl := Option.some.inj h
    clear h
    have LM := Aside0.mk c1
    clear c1
    have HR0 := Aside0.mk hr0
    have HC0 := Aside0.mk hc0
    clear hr0 hc0
    have HB := Aside0.mk (Below.refl w.heap.size w)
    cases A0 with
    | none =>
      have hn : l0 = [] := by
        cases l0 with
        | nil => rfl
        | cons a_ b_ => obtain ⟨ad, c, e, _⟩ := Kd.C_get HR0.out (0 : Int) 0 (by decide) (by simp); cases e
      subst hn
      have heq : ∀ W : World, (binOp .eql 33 (.slice none ([] : List Int).length c0) (.slice none 0 0)).run Try.prog W = .ok (.bool true) W := fun W => Lib.run_eql_slice_nil W 33 3 none _ _ _ _ Try.underlying33
      have heq2 : ∀ W : World, (binOp .eql 33 (.slice none 0 c0) (.slice none 0 0)).run Try.prog W = .ok (.bool true) W := fun W => Lib.run_eql_slice_nil W 33 3 none _ _ _ _ Try.underlying33
      go_enter Try.func15, Try.ntmps15
      go_wp2
      go_ret
      exact ⟨_, rfl, Kd.R_nil _ _ _ _ _, HB.out⟩
    | some ad =>
      have heq : ∀ W : World, (binOp .eql 33 (.slice (some ad) l0.length c0) (.slice none 0 0)).run Try.prog W = .ok (.bool false) W := fun W => Lib.run_eql_slice_nil W 33 3 (some ad) _ _ _ _ Try.underlying33
      obtain ⟨y1, Ny1⟩ : ∃ y_ : List Int, Aside0 (y_ = ([] : List Int)) := ⟨_, ⟨rfl⟩⟩
      have LM2 := Aside0.mk (show y1.length + l0.length < 17592186044416 by have := LM.out; rw [Ny1.out]; simpa using this)
      have Ny2 := Aside0.mk (show l0 = y1 ++ l0 by rw [Ny1.out]; rfl)
      go_enter Try.func15, Try.ntmps15
      go_wp2_with (first | ((with_reducible refine gate_dst (N := 5) rfl ?_); refine Kd.R_lit (Kd.int .i64) _ 3 ?hg (N := 5) ?hd (xs := ([] : List Int)) (inner := []) (ok := fun _ => True) (okp := fun _ => True) ?hr ?hp (fun _ hk => hk) trivial (Below.refl _ _) (Nat.le_refl _) (by simp) ?_; (case hd => rfl); (case hg => rfl); (case hr => first | (go_simp; done) | (go_simp; rfl)); (case hp => exact (Reps.none _ _)); intro va w4 ho5 hb hg_ hnew_; clear hg_ hnew_; (first | rw [← Ny1.out] at ho5 | (simp only [Int.reduceToNat] at ho5; rw [← Ny1.out] at ho5)); have n0_ := Aside0.mk (Kd.R_lower ho5 (below_size (by repeat (first | (with_reducible first | exact HB.out | apply below_alloc | apply pw_below_drewN | apply below_drew1) | exact HB.out)))); have n1_ := Aside0.mk (below_step (by repeat (first | (with_reducible first | exact HB.out | apply below_alloc | apply pw_below_drewN | apply below_drew1) | exact HB.out)) hb); clear HB; have HOa := n0_; have HB := n1_; clear n0_ n1_; clear hb ho5) | ((with_reducible refine gate_builtin (b := .append) (xs := #[.tmp 5, .tmp 6]) rfl ?_); at_builtin; refine Kd.R_append_rows (Kd.int .i64) (w0 := w) w.heap.size rfl (.tmp 5) (.tmp 6) 33 3 (.int .i64 0) 8 rfl Try.underlying33 info3 rfl (by decide) (by omega) va y1 l0 _ _ _ (fun _ => True) (fun _ => False) rfl rfl ?aO ?aR (fun _ _ h => h) (fun _ h => h.elim) ?aF ?aB ?aS ?aL ?_; (case aR => repeat (first | exact (Kd.C_below HR0.out HB.out) | (with_reducible refine Kd.C_alloc ?_ _) | (with_reducible refine Kd.C_drewN ?_ _) | (with_reducible refine Kd.C_drew ?_))); (case aB => exact (by repeat (first | (with_reducible first | exact HB.out | apply below_alloc | apply pw_below_drewN | apply below_drew1) | exact HB.out))); (case aF => exact (fun _ _ => trivial)); (case aO => exact (by (with_reducible repeat (first | apply Kd.R_alloc | apply Kd.R_drewN | apply Kd.R_drew)); exact HOa.out)); (case aS => exact (below_size (by repeat (first | (with_reducible first | exact HB.out | apply below_alloc | apply pw_below_drewN | apply below_drew1) | exact HB.out)))); (case aL => have := LM2.out; omega); intro vb w6 ho hb hg hat; rw [← Ny2.out] at ho; have n0_ := Aside0.mk (hb); have n1_ := Aside0.mk (ho); clear HB; clear HOa; have HB := n0_; have HOa := n1_; clear n0_ n1_; clear ho hb hg hat))
      go_ret
      exact ⟨_, rfl, by (with_reducible repeat (first | apply Kd.R_alloc | apply Kd.R_drewN | apply Kd.R_drew)); exact HOa.out, by repeat (first | (with_reducible first | exact HB.out | apply below_alloc | apply pw_below_drewN | apply below_drew1) | exact HB.out)⟩
  · rw [if_neg c1] at h; cases h
end Go.Proofs.Ytehjbhnlbjbhfaa.PDiskBegins
-- DkA
namespace Go.Proofs.Ytehjbhnlbjbhfaa.Dk
open Go Go.RowKit Go.Proofs.YtehjbhnlbjbhfaaW.PrintWords Go.Proofs.YtehjbhnlbjbhfaaW.PrintLast Go.Proofs.YtehjbhnlbjbhfaaW.PrintMore
set_option linter.unusedVariables false
structure Fl where
  seen : List Int
  lasts : List Int
  cl : Bool
structure DS where
  set : Bool
  left : Int
  keep : List Int
  fs : List Fl
  room : Int
  off : Bool
def nf : Fl := ⟨[], [], false⟩
def fl (s : DS) (i : Nat) : Fl := s.fs.getD i nf
def ableP (s : DS) (i : Int) : Int := if s.room = 0 then 6 else if s.off = true then 50 else if i < 0 ∨ 8 ≤ i then 51 else 0
def usedP (s : DS) : Nat := (s.fs.map fun f => f.seen.length).sum
def afterP (f : Fl) (k : Int) : Fl :=
  if 0 ≤ k then (if f.cl = true then ⟨f.seen.take k.toNat, f.seen.take k.toNat, false⟩ else ⟨f.seen.take (f.lasts.length + k.toNat), f.seen.take (f.lasts.length + k.toNat), false⟩)
  else ⟨f.lasts, f.lasts, false⟩
def kv (keep : List Int) (i : Nat) : Int := if i < keep.length then rd keep (i : Int) else -1
def fallFs (keep : List Int) : Nat → List Fl → List Fl
  | _, [] => []
  | i, f :: r => afterP f (kv keep i) :: fallFs keep (i + 1) r
def fallP (s : DS) (keep : List Int) : DS := ⟨false, 0, [], fallFs keep 0 s.fs, s.room, true⟩
def struckP (s : DS) (n : Nat) : Bool := s.set && decide (s.left ≤ (n : Int))
def burnN (s : DS) (n : Nat) : Nat := if s.set = true ∧ s.left ≤ (n : Int) then s.left.toNat else n
def burnS (s : DS) (n : Nat) : DS := if s.set = true ∧ (n : Int) < s.left then { s with left := s.left - n } else s
def setF (s : DS) (i : Nat) (f : Fl) : DS := { s with fs := s.fs.set i f }
def actP (s : DS) (n : Nat) (done : DS → Nat → DS) : DS × Int :=
  if struckP s n = true then (fallP (done (burnS s n) (burnN s n)) s.keep, 50) else (done (burnS s n) (burnN s n), 0)
def doneA (i : Nat) (b : List Int) (s : DS) (n : Nat) : DS := setF s i ⟨(fl s i).seen ++ b.take n, (fl s i).lasts, (fl s i).cl⟩
def doneC (i : Nat) (s : DS) (n : Nat) : DS := if n = 1 then setF s i ⟨[], (fl s i).lasts, true⟩ else s
def doneY (i : Nat) (s : DS) (n : Nat) : DS := if n = 1 then setF s i ⟨(fl s i).seen, (fl s i).seen, false⟩ else s
def appendP (s : DS) (i : Int) (b : List Int) : DS × Int :=
  if ableP s i ≠ 0 then (s, ableP s i) else if s.room < (usedP s : Int) + (b.length : Int) then (s, 7) else actP s b.length (doneA i.toNat b)
def clearP (s : DS) (i : Int) : DS × Int := if ableP s i ≠ 0 then (s, ableP s i) else actP s 1 (doneC i.toNat)
def syncP (s : DS) (i : Int) : DS × Int := if ableP s i ≠ 0 then (s, ableP s i) else actP s 1 (doneY i.toNat)
def readP (s : DS) (i : Int) : List Int × Int := if ableP s i ≠ 0 then ([], ableP s i) else ((fl s i.toNat).seen, 0)
def crashP (s : DS) (keep : List Int) : DS × Int := if ableP s 0 ≠ 0 then (s, ableP s 0) else (fallP s keep, 0)
def armP (s : DS) (n : Int) (keep : List Int) : DS × Int := if ableP s 0 ≠ 0 then (s, ableP s 0) else if n < 1 then (s, 1) else ({ s with set := true, left := n, keep := keep }, 0)
def startP (s : DS) : DS × Int := if s.room = 0 then (s, 6) else ({ s with off := false }, 0)
def newP (room : Int) : DS := ⟨false, 0, [], List.replicate 8 nf, room, false⟩
structure Ok (s : DS) : Prop where
  len : s.fs.length = 8
  pre : ∀ f ∈ s.fs, f.cl = false → ∃ t, f.seen = f.lasts ++ t
  big : ∀ f ∈ s.fs, f.lasts.length ≤ 4194304
  told : ∀ f ∈ s.fs, f.seen.length ≤ 4194304
  fuse : s.set = true → 1 ≤ s.left ∧ s.left ≤ 9223372036854775807
  room : 0 ≤ s.room ∧ s.room ≤ 4194304
  keep : s.keep.length < 1000000000
structure FV where
  sv : Value
  lv : Value
  cl : Bool
structure DV where
  set : Bool
  left : Int
  kv : Value
  fs : List FV
  room : Int
  off : Bool
def FV.cells (f : FV) : List Value := [f.sv, f.lv, .bool f.cl]
def DV.cells (d : DV) : List Value := [.bool d.set, .int .i64 d.left, d.kv] ++ (d.fs.flatMap FV.cells ++ [.int .i64 d.room, .bool d.off])
def nv : FV := ⟨.slice none 0 0, .slice none 0 0, false⟩
def DV.f (d : DV) (i : Nat) : FV := d.fs.getD i nv
def At (W : World) (g : Nat) (d : DV) : Prop := d.fs.length = 8 ∧ W.heap[g]? = some (.cells d.cells.toArray 64 (0, 0))
theorem eight {α : Type} {l : List α} (h : l.length = 8) : ∃ a0 a1 a2 a3 a4 a5 a6 a7, l = [a0, a1, a2, a3, a4, a5, a6, a7] := by
  match l, h with
  | [a0, a1, a2, a3, a4, a5, a6, a7], _ => exact ⟨a0, a1, a2, a3, a4, a5, a6, a7, rfl⟩
theorem below8 {i : Nat} (h : i < 8) : i = 0 ∨ i = 1 ∨ i = 2 ∨ i = 3 ∨ i = 4 ∨ i = 5 ∨ i = 6 ∨ i = 7 := by omega
section
variable {W : World} {g : Nat} {d : DV}
theorem At.cell (h : At W g d) (i : Nat) : W.cell? ⟨g, i, none⟩ = d.cells[i]? := by
  rw [blk_cell h.2 i]; simp
theorem At.frozen (h : At W g d) (i : Nat) : W.frozen? ⟨g, i, none⟩ = false := blk_frozen h.2 i
theorem At.c0 (h : At W g d) : W.cell? ⟨g, 0, none⟩ = some (.bool d.set) := (h.cell 0).trans rfl
theorem At.c1 (h : At W g d) : W.cell? ⟨g, 1, none⟩ = some (.int .i64 d.left) := (h.cell 1).trans rfl
theorem At.c2 (h : At W g d) : W.cell? ⟨g, 2, none⟩ = some d.kv := (h.cell 2).trans rfl
theorem At.c27 (h : At W g d) : W.cell? ⟨g, 27, none⟩ = some (.int .i64 d.room) := by
  rw [h.cell 27]
  obtain ⟨a0, a1, a2, a3, a4, a5, a6, a7, e⟩ := eight h.1
  unfold DV.cells; rw [e]; rfl
theorem At.c28 (h : At W g d) : W.cell? ⟨g, 28, none⟩ = some (.bool d.off) := by
  rw [h.cell 28]
  obtain ⟨a0, a1, a2, a3, a4, a5, a6, a7, e⟩ := eight h.1
  unfold DV.cells; rw [e]; rfl
theorem At.sv (h : At W g d) {i : Nat} (hi : i < 8) : W.cell? ⟨g, 3 + i * 3, none⟩ = some (d.f i).sv := by
  rw [h.cell]
  obtain ⟨a0, a1, a2, a3, a4, a5, a6, a7, e⟩ := eight h.1
  unfold DV.cells DV.f; rw [e]
  rcases below8 hi with rfl | rfl | rfl | rfl | rfl | rfl | rfl | rfl <;> rfl
theorem At.lv (h : At W g d) {i : Nat} (hi : i < 8) : W.cell? ⟨g, 3 + i * 3 + 1, none⟩ = some (d.f i).lv := by
  rw [h.cell]
  obtain ⟨a0, a1, a2, a3, a4, a5, a6, a7, e⟩ := eight h.1
  unfold DV.cells DV.f; rw [e]
  rcases below8 hi with rfl | rfl | rfl | rfl | rfl | rfl | rfl | rfl <;> rfl
theorem At.cl (h : At W g d) {i : Nat} (hi : i < 8) : W.cell? ⟨g, 3 + i * 3 + 2, none⟩ = some (.bool (d.f i).cl) := by
  rw [h.cell]
  obtain ⟨a0, a1, a2, a3, a4, a5, a6, a7, e⟩ := eight h.1
  unfold DV.cells DV.f; rw [e]
  rcases below8 hi with rfl | rfl | rfl | rfl | rfl | rfl | rfl | rfl <;> rfl
theorem At.lt (h : At W g d) : g < W.heap.size := blk_lt h.2
theorem At.same (h : At W g d) {W' : World} (he : W'.heap[g]? = W.heap[g]?) : At W' g d := ⟨h.1, he.trans h.2⟩
theorem At.put (h : At W g d) {d' : DV} (hl : d'.fs.length = 8) (i : Nat) (u : Value) (e : d.cells.toArray.setIfInBounds i u = d'.cells.toArray) : At (W.setCell ⟨g, i, none⟩ u) g d' := ⟨hl, e ▸ blk_set h.2 i u⟩
theorem At.set0 (h : At W g d) (b : Bool) : At (W.setCell ⟨g, 0, none⟩ (.bool b)) g { d with set := b } := h.put (d' := { d with set := b }) h.1 0 _ (by unfold DV.cells; rfl)
theorem At.set1 (h : At W g d) (x : Int) : At (W.setCell ⟨g, 1, none⟩ (.int .i64 x)) g { d with left := x } := h.put (d' := { d with left := x }) h.1 1 _ (by unfold DV.cells; rfl)
theorem At.set2 (h : At W g d) (v : Value) : At (W.setCell ⟨g, 2, none⟩ v) g { d with kv := v } := h.put (d' := { d with kv := v }) h.1 2 _ (by unfold DV.cells; rfl)
theorem At.set28 (h : At W g d) (b : Bool) : At (W.setCell ⟨g, 28, none⟩ (.bool b)) g { d with off := b } := by
  refine h.put (d' := { d with off := b }) h.1 28 _ ?_
  obtain ⟨a0, a1, a2, a3, a4, a5, a6, a7, e⟩ := eight h.1
  unfold DV.cells; simp only [e]; rfl
theorem At.setS (h : At W g d) {i : Nat} (hi : i < 8) (v : Value) : At (W.setCell ⟨g, 3 + i * 3, none⟩ v) g { d with fs := d.fs.set i ⟨v, (d.f i).lv, (d.f i).cl⟩ } := by
  refine h.put (by simp [h.1]) _ _ ?_
  obtain ⟨a0, a1, a2, a3, a4, a5, a6, a7, e⟩ := eight h.1
  unfold DV.cells DV.f; simp only [e]
  rcases below8 hi with rfl | rfl | rfl | rfl | rfl | rfl | rfl | rfl <;> rfl
theorem At.setL (h : At W g d) {i : Nat} (hi : i < 8) (v : Value) : At (W.setCell ⟨g, 3 + i * 3 + 1, none⟩ v) g { d with fs := d.fs.set i ⟨(d.f i).sv, v, (d.f i).cl⟩ } := by
  refine h.put (by simp [h.1]) _ _ ?_
  obtain ⟨a0, a1, a2, a3, a4, a5, a6, a7, e⟩ := eight h.1
  unfold DV.cells DV.f; simp only [e]
  rcases below8 hi with rfl | rfl | rfl | rfl | rfl | rfl | rfl | rfl <;> rfl
theorem At.setC (h : At W g d) {i : Nat} (hi : i < 8) (b : Bool) : At (W.setCell ⟨g, 3 + i * 3 + 2, none⟩ (.bool b)) g { d with fs := d.fs.set i ⟨(d.f i).sv, (d.f i).lv, b⟩ } := by
  refine h.put (by simp [h.1]) _ _ ?_
  obtain ⟨a0, a1, a2, a3, a4, a5, a6, a7, e⟩ := eight h.1
  unfold DV.cells DV.f; simp only [e]
  rcases below8 hi with rfl | rfl | rfl | rfl | rfl | rfl | rfl | rfl <;> rfl
end
def Rw (G : Nat → Prop) (k : IntKind) (W : World) (v : Value) (xs : List Int) : Prop := Kd.V (Kd.int k) 0 W 0 (fun b => ¬ G b) v xs
theorem Rw.nil (G : Nat → Prop) (k : IntKind) (W : World) : Rw G k W (.slice none 0 0) [] := Kd.V_nil _ _ _ _ _
theorem Rw.slice {G : Nat → Prop} {k : IntKind} {W : World} {v : Value} {xs : List Int} (h : Rw G k W v xs) : ∃ A c, v = .slice A xs.length c ∧ xs.length ≤ c ∧ (Kd.int k).C W A xs.length xs := by
  obtain ⟨A, c, rfl⟩ := Kd.V_slice h
  exact ⟨A, c, rfl, (Kd.V_reads' h).2.1, (Kd.V_reads' h).2.2⟩
theorem Rw.step {G : Nat → Prop} {k : IntKind} {W W' : World} {v : Value} {xs : List Int} (h : Rw G k W v xs) (hm : ∀ b, ¬ G b → b < W.heap.size → W'.heap[b]? = W.heap[b]?) : Rw G k W' v xs := Kd.V_step h hm
theorem Rw.grow {G G' : Nat → Prop} {k : IntKind} {W : World} {v : Value} {xs : List Int} (h : Rw G k W v xs) (hg : ∀ b, b < W.heap.size → G' b → G b) : Rw G' k W v xs := Kd.V_mono (Kd.V_bound h) (fun b hb hG => hb.1 (hg b hb.2 hG))
theorem Rw.of_R {G : Nat → Prop} {k : IntKind} {e : Nat} {W W0 : World} {v : Value} {xs : List Int} (h : Kd.R (Kd.int k) e W W0.heap.size (fun _ => True) v xs) (hG : ∀ b, G b → b < W0.heap.size) : Rw G k W v xs :=
  show Kd.V (Kd.int k) e W 0 (fun b => ¬ G b) v xs from Kd.R_V (Kd.R_mono (Kd.R_bound h) (fun b hb hg => by have := hb.2.1; have := hG b hg; omega))
theorem Rw.of_V {G : Nat → Prop} {k : IntKind} {e base : Nat} {W W0 : World} {v : Value} {xs : List Int} (h : Kd.V (Kd.int k) e W base (fun b => W0.heap.size ≤ b) v xs) (hG : ∀ b, G b → b < W0.heap.size) : Rw G k W v xs :=
  Kd.V_mono h (fun b hb hg => by have := hG b hg; omega)
def FR (G : Nat → Prop) (W : World) (v : FV) (f : Fl) : Prop := Rw G .u8 W v.sv f.seen ∧ Rw G .u8 W v.lv f.lasts ∧ v.cl = f.cl
def Rows (G : Nat → Prop) (W : World) (d : DV) (s : DS) : Prop := d.set = s.set ∧ d.left = s.left ∧ Rw G .i64 W d.kv s.keep ∧ d.room = s.room ∧ d.off = s.off ∧ s.fs.length = 8 ∧ ∀ i, i < 8 → FR G W (d.f i) (fl s i)
structure IsD (G : Nat → Prop) (W : World) (g : Nat) (s : DS) : Prop where
  lt : ∀ b, G b → b < W.heap.size
  gg : G g
  ex : ∃ d, At W g d ∧ Rows G W d s
structure Wr (g : Nat) (w w' : World) : Prop where
  os : w'.os = w.os
  tape : w'.tape = w.tape
  output : w'.output = w.output
  size : w.heap.size ≤ w'.heap.size
  block : ∀ i, i < w.heap.size → i ≠ g → w'.heap[i]? = w.heap[i]?
theorem Wr.refl (g : Nat) (w : World) : Wr g w w := ⟨rfl, rfl, rfl, Nat.le_refl _, fun _ _ _ => rfl⟩
theorem Wr.trans {g : Nat} {w w1 w2 : World} (h : Wr g w w1) (k : Wr g w1 w2) : Wr g w w2 :=
  ⟨k.os.trans h.os, k.tape.trans h.tape, k.output.trans h.output, Nat.le_trans h.size k.size, fun i hi hne => (k.block i (Nat.lt_of_lt_of_le hi h.size) hne).trans (h.block i hi hne)⟩
theorem Wr.of_below {g : Nat} {w w1 : World} (h : Below w.heap.size w w1) : Wr g w w1 := ⟨h.os, h.tape, h.output, h.size, fun i hi _ => h.block i hi⟩
theorem Wr.set {g : Nat} {w w1 : World} (h : Wr g w w1) (j : Nat) (u : Value) : Wr g w (w1.setCell ⟨g, j, none⟩ u) :=
  have hb : Below 0 w1 (w1.setCell ⟨g, j, none⟩ u) := (Below.refl 0 w1).setCell (p := ⟨g, j, none⟩) (Nat.zero_le _) u
  h.trans ⟨hb.os, hb.tape, hb.output, by simp, fun i _ hne => Below.heap_setCell w1 ⟨g, j, none⟩ u i hne⟩
theorem Wr.below {g : Nat} {w0 w w1 : World} (h : Wr g w w1) (hb : Below w0.heap.size w0 w) (hg : w0.heap.size ≤ g) : Below w0.heap.size w0 w1 :=
  ⟨h.os.trans hb.os, h.tape.trans hb.tape, h.output.trans hb.output, Nat.le_trans hb.size h.size, fun i hi => (h.block i (Nat.lt_of_lt_of_le hi hb.size) (by omega)).trans (hb.block i hi)⟩
theorem Rw.wr {G : Nat → Prop} {k : IntKind} {g : Nat} {W W' : World} {v : Value} {xs : List Int} (h : Rw G k W v xs) (hw : Wr g W W') (hg : G g) : Rw G k W' v xs := h.step (fun b hb hlt => hw.block b hlt (fun e => hb (e ▸ hg)))
theorem Rw.below {G : Nat → Prop} {k : IntKind} {W W' : World} {v : Value} {xs : List Int} (h : Rw G k W v xs) (hw : Below W.heap.size W W') : Rw G k W' v xs := h.step (fun b _ hlt => hw.block b hlt)
theorem Rows.wr {G : Nat → Prop} {g : Nat} {W W' : World} {d : DV} {s : DS} (h : Rows G W d s) (hw : Wr g W W') (hg : G g) : Rows G W' d s :=
  ⟨h.1, h.2.1, h.2.2.1.wr hw hg, h.2.2.2.1, h.2.2.2.2.1, h.2.2.2.2.2.1, fun i hi => ⟨(h.2.2.2.2.2.2 i hi).1.wr hw hg, (h.2.2.2.2.2.2 i hi).2.1.wr hw hg, (h.2.2.2.2.2.2 i hi).2.2⟩⟩
theorem IsD.other {G : Nat → Prop} {g g' : Nat} {W W' : World} {s : DS} (h : IsD G W g s) (hw : Wr g' W W') (hg : G g') (hne : g ≠ g') : IsD G W' g s := by
  obtain ⟨h1, h2, d, hA, hR⟩ := h
  exact ⟨fun b hb => Nat.lt_of_lt_of_le (h1 b hb) hw.size, h2, d, hA.same (hw.block g (h1 g h2) hne), hR.wr hw hg⟩
theorem IsD.below {G : Nat → Prop} {g : Nat} {W W' : World} {s : DS} (h : IsD G W g s) (hw : Below W.heap.size W W') : IsD G W' g s := by
  obtain ⟨h1, h2, d, hA, hR⟩ := h
  exact ⟨fun b hb => Nat.lt_of_lt_of_le (h1 b hb) hw.size, h2, d, hA.same (hw.block g (h1 g h2)), hR.wr (Wr.of_below hw) h2⟩
theorem IsD.more {G : Nat → Prop} {g b : Nat} {W W' : World} {s : DS} (h : IsD G W g s) (hb : W.heap.size ≤ b) (hb' : b < W'.heap.size) (hw : Below W.heap.size W W') : IsD (fun k => G k ∨ k = b) W' g s := by
  have h' := h.below hw
  obtain ⟨h1, h2, d, hA, hR⟩ := h
  have hR' : Rows (fun k => G k ∨ k = b) W d s := ⟨hR.1, hR.2.1, hR.2.2.1.grow (fun k hk hG => hG.elim id (fun e => by omega)), hR.2.2.2.1, hR.2.2.2.2.1, hR.2.2.2.2.2.1, fun i hi => ⟨(hR.2.2.2.2.2.2 i hi).1.grow (fun k hk hG => hG.elim id (fun e => by omega)), (hR.2.2.2.2.2.2 i hi).2.1.grow (fun k hk hG => hG.elim id (fun e => by omega)), (hR.2.2.2.2.2.2 i hi).2.2⟩⟩
  exact ⟨fun k hk => hk.elim (h'.lt k) (fun e => e ▸ hb'), .inl h2, d, hA.same (hw.block g (h1 g h2)), hR'.wr (Wr.of_below hw) (.inl h2)⟩
end Go.Proofs.Ytehjbhnlbjbhfaa.Dk
-- DkB
namespace Go.Proofs.Ytehjbhnlbjbhfaa.Dk
open Go Go.RowKit Go.Proofs.YtehjbhnlbjbhfaaW.PrintWords Go.Proofs.YtehjbhnlbjbhfaaW.PrintLast Go.Proofs.YtehjbhnlbjbhfaaW.PrintMore
open Go.Proofs.Ytehjbhnlbjbhfaa.PDiskBegins
attribute [local go_sem] max2_int min2_int max_two min_two
set_option linter.unusedVariables false
set_option maxHeartbeats 2000000 in
theorem able_calls (G : Nat → Prop) (g : Nat) (s : DS) (i : Int) (w : World) (h : IsD G w g s) : Calls Try.prog 58 #[.pointer (some ⟨g, 0, none⟩), .int .i64 i] w fun e w' => e = .returned (.int .i64 (ableP s i)) ∧ Drawn0 w w' := by
  obtain ⟨_, _, d, hA, hR⟩ := h
  have hc27 := hA.c27
  have hc28 := hA.c28
  have HAB := Aside0.mk (show ableP s i = if d.room = 0 then 6 else if d.off = true then 50 else if i < 0 ∨ 8 ≤ i then 51 else 0 by unfold ableP; rw [hR.2.2.2.1, hR.2.2.2.2.1])
  clear hA hR
  rw [HAB.out]
  by_cases c1 : d.room = 0
  · rw [if_pos c1]
    rw [c1] at hc27
    clear c1 HAB
    go_enter Try.func58, Try.ntmps58
    go_wp2
    go_ret
    exact ⟨rfl, Drawn0.refl _⟩
  · rw [if_neg c1]
    have d1 : (d.room == (0 : Int)) = false := by simpa using c1
    clear HAB
    by_cases c2 : d.off = true
    · rw [if_pos c2]
      rw [c2] at hc28
      clear c1 c2
      go_enter Try.func58, Try.ntmps58
      go_wp2
      go_ret
      exact ⟨rfl, Drawn0.refl _⟩
    · rw [if_neg c2]
      have c2' : d.off = false := by simpa using c2
      rw [c2'] at hc28
      clear c2 c2' c1
      by_cases c3 : i < 0
      · rw [if_pos (.inl c3)]
        have d3 : decide (i < 0) = true := decide_eq_true c3
        go_enter Try.func58, Try.ntmps58
        go_wp2
        go_ret
        exact ⟨rfl, Drawn0.refl _⟩
      · have d3 : decide (i < 0) = false := decide_eq_false c3
        by_cases c4 : 8 ≤ i
        · rw [if_pos (.inr c4)]
          have d4 : decide (8 ≤ i) = true := decide_eq_true c4
          go_enter Try.func58, Try.ntmps58
          go_wp2
          go_ret
          exact ⟨rfl, Drawn0.refl _⟩
        · rw [if_neg (by omega)]
          have d4 : decide (8 ≤ i) = false := decide_eq_false c4
          go_enter Try.func58, Try.ntmps58
          go_wp2
          go_ret
          exact ⟨rfl, Drawn0.refl _⟩
theorem Clone_b (A0 : Option Addr) (c0 : Nat) (l0 : List Int) (w : World) (hr0 : Kd.C (Kd.int .u8) w A0 l0.length l0) (hc0 : l0.length ≤ c0) (hl : l0.length < 140737488355328) :
    Calls Try.prog 14 #[.slice A0 l0.length c0] w fun e w' => ∃ v0_ : Value, e = .returned (v0_) ∧ Kd.R (Kd.int .u8) 5 w' w.heap.size (fun _ => True) v0_ l0 ∧ Below w.heap.size w w' :=
  slices_Clone_byte_byte.calls A0 c0 l0 l0 w hr0 hc0 (by unfold slices_Clone_byte_byte.f; rw [if_pos hl])
theorem Clone_i (A0 : Option Addr) (c0 : Nat) (l0 : List Int) (w : World) (hr0 : Kd.C (Kd.int .i64) w A0 l0.length l0) (hc0 : l0.length ≤ c0) (hl : l0.length < 17592186044416) :
    Calls Try.prog 15 #[.slice A0 l0.length c0] w fun e w' => ∃ v0_ : Value, e = .returned (v0_) ∧ Kd.R (Kd.int .i64) 3 w' w.heap.size (fun _ => True) v0_ l0 ∧ Below w.heap.size w w' :=
  slices_Clone_int_int.calls A0 c0 l0 l0 w hr0 hc0 (by unfold slices_Clone_int_int.f; rw [if_pos hl])
theorem able_cases (s : DS) (i : Int) : (ableP s i ≠ 0) ∨ (ableP s i = 0 ∧ ∃ j : Nat, j < 8 ∧ i = (j : Int) ∧ s.room ≠ 0 ∧ s.off = false) := by
  unfold ableP
  by_cases c1 : s.room = 0
  · rw [if_pos c1]; exact .inl (by decide)
  · rw [if_neg c1]
    by_cases c2 : s.off = true
    · rw [if_pos c2]; exact .inl (by decide)
    · rw [if_neg c2]
      by_cases c3 : i < 0 ∨ 8 ≤ i
      · rw [if_pos c3]; exact .inl (by decide)
      · rw [if_neg c3]; exact .inr ⟨rfl, i.toNat, by omega, by omega, c1, by simpa using c2⟩
theorem Ok.fl_mem {s : DS} (h : Ok s) {i : Nat} (hi : i < 8) : fl s i ∈ s.fs := by
  unfold fl
  rw [List.getD_eq_getElem?_getD, List.getElem?_eq_getElem (by rw [h.len]; exact hi)]
  exact List.getElem_mem _
theorem sum_mem : ∀ (l : List Nat) (x : Nat), x ∈ l → x ≤ l.sum := by
  intro l
  induction l with
  | nil => intro x h; cases h
  | cons a l ih =>
    intro x h
    rw [List.sum_cons]
    rcases List.mem_cons.1 h with h | h
    · omega
    · have := ih x h; omega
theorem Ok.seen_le {s : DS} (h : Ok s) {i : Nat} (hi : i < 8) : (fl s i).seen.length ≤ 4194304 := h.told _ (h.fl_mem hi)
set_option maxHeartbeats 2000000 in
theorem Read_calls (G : Nat → Prop) (g : Nat) (s : DS) (i : Int) (w : World) (h : IsD G w g s) (hok : Ok s) : Calls Try.prog 20 #[.pointer (some ⟨g, 0, none⟩), .int .i64 i] w fun e w' => ∃ v, e = .returned (.tuple #[v, .int .i64 (readP s i).2]) ∧ Kd.R (Kd.int .u8) 5 w' w.heap.size (fun _ => True) v (readP s i).1 ∧ Below w.heap.size w w' := by
  have H := Aside0.mk h
  have HAB := Aside0.mk (able_calls G g s i w h)
  rcases able_cases s i with c | ⟨c, j, hj, rfl, _, _⟩
  · have HR := Aside0.mk (show readP s i = ([], ableP s i) by unfold readP; rw [if_pos c])
    have c1 : (ableP s i != (0 : Int)) = true := by simpa using c
    have c2 : (ableP s i == (0 : Int)) = false := by simpa using c
    rw [HR.out]
    clear h c HR
    generalize ableP s i = er at *
    go_enter Try.func20, Try.ntmps20
    go_wp2_with (fail)
    refine (HAB.out).mono ?_
    rintro e w1 ⟨rfl, hd⟩
    have HD := Aside0.mk hd
    clear hd
    go_wp2
    go_ret2
    exact ⟨_, rfl, Kd.R_nil _ _ _ _ _, HD.out.below⟩
  · have HR := Aside0.mk (show readP s (j : Int) = ((fl s j).seen, 0) by unfold readP; rw [if_neg (by rw [c]; decide), Int.toNat_natCast])
    rw [c] at HAB
    rw [HR.out]
    obtain ⟨_, _, d, hA, hR⟩ := h
    obtain ⟨A, cp, hv, hcp, hC⟩ := (hR.2.2.2.2.2.2 j hj).1.slice
    have hsv := hA.sv hj
    rw [hv] at hsv
    have HC := Aside0.mk (And.intro hcp hC)
    have HL := Aside0.mk (hok.seen_le hj)
    clear hA hR hv hcp hC c HR hok
    go_enter Try.func20, Try.ntmps20
    go_wp2_with (fail)
    refine (HAB.out).mono ?_
    rintro e w1 ⟨rfl, hd⟩
    obtain ⟨nd, rfl⟩ := hd
    go_wp2_with (fail)
    refine (Clone_b A cp _ _ (Kd.C_drewN HC.out.2 nd) HC.out.1 (by have := HL.out; omega)).mono ?_
    rintro e w2 ⟨v, rfl, hR2, hB2⟩
    have HR2 := Aside0.mk hR2
    have HB2 := Aside0.mk hB2
    clear hR2 hB2
    go_wp2
    go_ret2
    exact ⟨_, rfl, Kd.R_lower HR2.out (Nat.le_refl _), below_step (pw_below_drewN (Below.refl _ _) nd) HB2.out⟩
set_option maxHeartbeats 2000000 in
theorem Start_calls (G : Nat → Prop) (g : Nat) (s : DS) (w : World) (h : IsD G w g s) : Calls Try.prog 53 #[.pointer (some ⟨g, 0, none⟩)] w fun e w' => e = .returned (.int .i64 (startP s).2) ∧ IsD G w' g (startP s).1 ∧ Wr g w w' := by
  have H := Aside0.mk h
  obtain ⟨_, _, d, hA, hR⟩ := h
  have HA := Aside0.mk hA
  have HR := Aside0.mk hR
  have hc27 := hA.c27
  have hc28 := hA.c28
  have hf28 := hA.frozen 28
  have hrm := hR.2.2.2.1
  clear hA hR
  by_cases c1 : s.room = 0
  · have HS := Aside0.mk (show startP s = (s, 6) by unfold startP; rw [if_pos c1])
    rw [HS.out]
    rw [hrm, c1] at hc27
    clear c1 hrm HS
    go_enter Try.func53, Try.ntmps53
    go_wp2
    go_ret
    exact ⟨rfl, H.out, Wr.refl _ _⟩
  · have HS := Aside0.mk (show startP s = ({ s with off := false }, 0) by unfold startP; rw [if_neg c1])
    rw [HS.out]
    rw [hrm] at hc27
    have d1 : (s.room == (0 : Int)) = false := by simpa using c1
    clear c1 hrm HS
    go_enter Try.func53, Try.ntmps53
    go_wp2
    go_ret
    refine ⟨rfl, ?_, (Wr.refl g w).set 28 _⟩
    have hw := (Wr.refl g w).set 28 (.bool false)
    refine ⟨fun b hb => by simpa using H.out.lt b hb, H.out.gg, _, HA.out.set28 false, ?_⟩
    have := HR.out.wr hw H.out.gg
    exact ⟨this.1, this.2.1, this.2.2.1, this.2.2.2.1, rfl, this.2.2.2.2.2.1, this.2.2.2.2.2.2⟩
set_option maxHeartbeats 2000000 in
theorem burn_calls (G : Nat → Prop) (g : Nat) (s : DS) (n : Nat) (w : World) (h : IsD G w g s) (hok : Ok s) (hn : n < 1000000000) : Calls Try.prog 83 #[.pointer (some ⟨g, 0, none⟩), .int .i64 (n : Int)] w fun e w' => e = .returned (.int .i64 ((burnN s n : Nat) : Int)) ∧ IsD G w' g (burnS s n) ∧ Wr g w w' := by
  have H := Aside0.mk h
  obtain ⟨_, _, d, hA, hR⟩ := h
  have HA := Aside0.mk hA
  have HR := Aside0.mk hR
  have hc0 := hA.c0
  have hc1 := hA.c1
  have hf1 := hA.frozen 1
  rw [hR.1] at hc0
  rw [hR.2.1] at hc1
  have HF := Aside0.mk hok.fuse
  clear hA hR hok
  by_cases c1 : s.set = true
  · rw [c1] at hc0
    have hf := HF.out c1
    by_cases c2 : (n : Int) < s.left
    · have HN := Aside0.mk (show burnN s n = n by unfold burnN; rw [if_neg (by omega)])
      have HS := Aside0.mk (show burnS s n = { s with left := s.left - n } by unfold burnS; rw [if_pos ⟨c1, c2⟩])
      rw [HN.out, HS.out]
      have hw : wrap64 (s.left - (n : Int)) = s.left - (n : Int) := by unfold wrap64; omega
      have d2 : decide ((n : Int) < s.left) = true := decide_eq_true c2
      clear c1 c2 hf hn
      go_enter Try.func83, Try.ntmps83
      go_wp2
      go_ret
      refine ⟨rfl, ?_, (Wr.refl g w).set 1 _⟩
      have hwr := (Wr.refl g w).set 1 (.int .i64 (s.left - (n : Int)))
      refine ⟨fun b hb => by simpa using H.out.lt b hb, H.out.gg, _, HA.out.set1 _, ?_⟩
      have := HR.out.wr hwr H.out.gg
      exact ⟨this.1, rfl, this.2.2.1, this.2.2.2.1, this.2.2.2.2.1, this.2.2.2.2.2.1, this.2.2.2.2.2.2⟩
    · obtain ⟨m, hm⟩ : ∃ m : Nat, s.left = (m : Int) := Int.eq_ofNat_of_zero_le (by omega)
      have HN := Aside0.mk (show burnN s n = m by unfold burnN; rw [if_pos ⟨c1, by omega⟩, hm, Int.toNat_natCast])
      have HS := Aside0.mk (show burnS s n = s by unfold burnS; rw [if_neg (by omega)])
      rw [HN.out, HS.out]
      rw [hm] at hc1
      have d2 : decide ((n : Int) < (m : Int)) = false := decide_eq_false (by omega)
      have d3 : decide (n < m) = false := decide_eq_false (by omega)
      clear c1 c2 hf hm
      go_enter Try.func83, Try.ntmps83
      go_wp2
      go_ret
      exact ⟨rfl, H.out, Wr.refl _ _⟩
  · have c1' : s.set = false := by simpa using c1
    have HN := Aside0.mk (show burnN s n = n by unfold burnN; rw [if_neg (fun h => c1 h.1)])
    have HS := Aside0.mk (show burnS s n = s by unfold burnS; rw [if_neg (fun h => c1 h.1)])
    rw [HN.out, HS.out]
    rw [c1'] at hc0
    clear c1 c1'
    go_enter Try.func83, Try.ntmps83
    go_wp2
    go_ret
    exact ⟨rfl, H.out, Wr.refl _ _⟩
end Go.Proofs.Ytehjbhnlbjbhfaa.Dk
-- DkC
namespace Go.Proofs.Ytehjbhnlbjbhfaa.Dk
open Go Go.RowKit Go.Proofs.YtehjbhnlbjbhfaaW.PrintWords Go.Proofs.YtehjbhnlbjbhfaaW.PrintLast Go.Proofs.YtehjbhnlbjbhfaaW.PrintMore
open Go.Proofs.Ytehjbhnlbjbhfaa.PDiskBegins
attribute [local go_sem] max2_int min2_int max_two min_two
set_option linter.unusedVariables false
section
variable {P : Program}
theorem run_loadVar_seg (w : World) (g o : Nat) (ty : TypeId) (cs : List Value) (d : TypeDesc) (hc : ∀ j v, cs[j]? = some v → w.cell? ⟨g, o + j, none⟩ = some v)
    (hu : P.underlying ty = some d) (hd : (match d with | .struct _ | .array _ _ => true | _ => false) = true) (hi : (P.info? ty).map (·.size) = some cs.length) :
    (loadVar ty ⟨g, o, none⟩).run P w = .ok (.agg cs.toArray) w := by
  have hl : (loadCells ⟨g, o, none⟩ cs.length).run P w = .ok cs.toArray w :=
    run_loadCells_list (P := P) w ⟨g, o, none⟩ cs (fun j v hv => by
      have hadd : (⟨g, o, none⟩ : Addr).add j = ⟨g, o + j, none⟩ := by unfold Addr.add; split <;> simp_all
      rw [hadd]
      exact hc j v hv)
  cases hq : P.info? ty with
  | none => simp [hq] at hi
  | some i =>
    have hs : i.size = cs.length := by simpa [hq] using hi
    have hagg : (isAgg ty).run P w = .ok true w := by
      unfold isAgg
      rw [Sem.run_bind, run_underlying hu w]
      cases d <;> simp_all
    simp [loadVar, Sem.run_bind, hagg, sizeOf, typeInfo, hq, hs, hl]
theorem wp_load_seg {o : Oper} {a : Act} {w : World} {K : Act → World → Prop} {Q : Exit → Act → World → Prop} (ty : TypeId) (x : Operand) (ho : o.op = .load ty x)
    (g f : Nat) (hx : a.eval x = .pointer (some ⟨g, f, none⟩)) (cs : List Value) (d : TypeDesc) (hc : ∀ j v, cs[j]? = some v → w.cell? ⟨g, f + j, none⟩ = some v)
    (hu : P.underlying ty = some d) (hd : (match d with | .struct _ | .array _ _ => true | _ => false) = true) (hi : (P.info? ty).map (·.size) = some cs.length)
    (h : K (a.put o.dst (.agg cs.toArray)) w) : o.wp P a w K Q := by
  unfold Oper.wp execOp
  simp only [ho, hx, Instr.loadAt, Instr.sureAddr, Sem.run_bind, Sem.run_pure, Result.andThen_ok, run_loadVar_seg w g f ty cs d hc hu hd hi]
  exact h
theorem wpList_load_seg {ops : Array Oper} {rest : List Oper} {o : Oper} {a : Act} {w : World} {Q : Exit → Act → World → Prop} (hgd : o.guard = none) (ty : TypeId) (x : Operand) (ho : o.op = .load ty x)
    (g f : Nat) (hx : a.eval x = .pointer (some ⟨g, f, none⟩)) (cs : List Value) (d : TypeDesc) (hc : ∀ j v, cs[j]? = some v → w.cell? ⟨g, f + j, none⟩ = some v)
    (hu : P.underlying ty = some d) (hd : (match d with | .struct _ | .array _ _ => true | _ => false) = true) (hi : (P.info? ty).map (·.size) = some cs.length)
    (h : wpList P ops Q rest (a.put o.dst (.agg cs.toArray)) w) : wpList P ops Q (o :: rest) a w :=
  wpList_plain hgd fun _ hK => wp_load_seg ty x ho g f hx cs d hc hu hd hi (hK _ _ h)
end
theorem files_cells {W : World} {g : Nat} {d : DV} (h : At W g d) : ∀ j v, (d.fs.flatMap FV.cells)[j]? = some v → W.cell? ⟨g, 3 + j, none⟩ = some v := by
  intro j v hj
  rw [h.cell]
  unfold DV.cells
  rw [List.getElem?_append_right (by simp), List.getElem?_append_left (by
    have := (List.getElem?_eq_some_iff.1 hj).1
    simpa using this)]
  simpa using hj
theorem files_len {d : DV} (h : d.fs.length = 8) : (d.fs.flatMap FV.cells).length = 24 := by
  obtain ⟨a0, a1, a2, a3, a4, a5, a6, a7, e⟩ := eight h
  rw [e]; rfl
theorem files_index {d : DV} (h : d.fs.length = 8) {k : Nat} (hk : k < 8) (W : World) : (Instr.index 62 (.agg (d.fs.flatMap FV.cells).toArray) (.int .i64 (k : Int))).run Try.prog W = .ok (.agg #[(d.f k).sv, (d.f k).lv, .bool (d.f k).cl]) W := by
  obtain ⟨a0, a1, a2, a3, a4, a5, a6, a7, e⟩ := eight h
  unfold DV.f
  rw [e]
  rcases below8 hk with rfl | rfl | rfl | rfl | rfl | rfl | rfl | rfl <;> kernel_rfl
def ps (s : DS) : Nat → Nat
  | 0 => 0
  | k + 1 => ps s k + (fl s k).seen.length
theorem ps_used (s : DS) (h : s.fs.length = 8) : ps s 8 = usedP s := by
  obtain ⟨a0, a1, a2, a3, a4, a5, a6, a7, e⟩ := eight h
  simp [ps, fl, usedP, e]; omega
theorem ps_le (s : DS) : ∀ (d k : Nat), k + d = 8 → ps s k ≤ ps s 8 := by
  intro d
  induction d with
  | zero => intro k h; rw [show k = 8 by omega]; exact Nat.le_refl _
  | succ d ih => intro k h; exact Nat.le_trans (Nat.le_add_right _ _) (ih (k + 1) (by omega))
theorem used_le {s : DS} (h : Ok s) : usedP s ≤ 33554432 := by
  have : ∀ l : List Fl, (∀ f ∈ l, f.seen.length ≤ 4194304) → (l.map fun f => f.seen.length).sum ≤ 4194304 * l.length := by
    intro l
    induction l with
    | nil => intro _; simp
    | cons a l ih =>
      intro hl
      have h1 := hl a (List.mem_cons_self ..)
      have h2 := ih (fun f hf => hl f (List.mem_cons_of_mem _ hf))
      rw [List.map_cons, List.sum_cons, List.length_cons]; omega
  have h2 := this s.fs h.told
  rw [h.len] at h2
  exact h2
set_option maxHeartbeats 8000000 in
set_option maxRecDepth 100000 in
theorem Used_calls (G : Nat → Prop) (g : Nat) (s : DS) (w : World) (h : IsD G w g s) (hok : Ok s) : Calls Try.prog 18 #[.pointer (some ⟨g, 0, none⟩)] w fun e w' => e = .returned (.int .i64 ((usedP s : Nat) : Int)) ∧ Below w.heap.size w w' := by
  have HU := Aside0.mk (ps_used s hok.len)
  have HPL := Aside0.mk (ps_le s)
  have HM := Aside0.mk (used_le hok)
  obtain ⟨_, _, d, hA, hR⟩ := h
  have HFC := Aside0.mk (files_cells hA)
  have HFL := Aside0.mk (files_len hA.1)
  have HIX := Aside0.mk (fun k hk => @files_index d hA.1 k hk)
  have HR := Aside0.mk hR
  have HB := Aside0.mk (Below.refl w.heap.size w)
  rw [← HU.out]
  clear hA hR hok
  generalize d.fs.flatMap FV.cells = X at HFC HFL HIX
  go_enter Try.func18, Try.ntmps18
  go_wp2_with (refine wpList_load_seg (P := Try.prog) rfl 62 (.tmp 11) rfl g 3 rfl X _ HFC.out Try.underlying62 rfl (by rw [HFL.out]; kernel_rfl) ?_)
  go_loopw [3, 13] (fun v3 v13 wr => ∃ k : Nat, k ≤ 8 ∧ v13 = .int .i64 (k : Int) ∧ v3 = .int .i64 ((ps s k : Nat) : Int) ∧ Aside0 (Below w.heap.size w wr)) (fun _ v13 _ => (8 - intOf v13).toNat)
  case atStart => exact ⟨0, by omega, rfl, rfl, HB⟩
  case round =>
    obtain ⟨k, hk, rfl, rfl, H⟩ := hrel
    clear HB
    have hq := HPL.out (8 - k) k (by omega)
    rw [HU.out] at hq
    have hq2 := Nat.le_trans hq HM.out
    clear hq
    by_cases hlt : k < 8
    · have hn := HPL.out (7 - k) (k + 1) (by omega)
      rw [HU.out] at hn
      have hn2 := Nat.le_trans hn HM.out
      clear hn
      have HP := Aside0.mk (show ps s (k + 1) = ps s k + (fl s k).seen.length from rfl)
      rw [HP.out] at hn2
      obtain ⟨A, c, hv, _, _⟩ := (HR.out.2.2.2.2.2.2 k hlt).1.slice
      obtain ⟨B, e, hx, _, _⟩ := (HR.out.2.2.2.2.2.2 k hlt).2.1.slice
      have ix := HIX.out k hlt
      rw [hv, hx] at ix
      clear hv hx
      generalize (fl s k).seen.length = n at *
      generalize (fl s k).lasts.length = m at *
      generalize (d.f k).cl = cl at *
      generalize ps s k = q at *
      go_wp2
      go_roundw
      case rel => exact ⟨k + 1, by omega, by go_num, by rw [HP.out]; go_num, ⟨below_alloc H.out _⟩⟩
      case measure => simp [intOf]; omega
    · obtain rfl : k = 8 := by omega
      rw [show ((8 : Nat) : Int) = 8 from rfl]
      clear hlt hk
      go_wp2
      go_ret
      exact ⟨rfl, H.out⟩
end Go.Proofs.Ytehjbhnlbjbhfaa.Dk
-- DkO
namespace Go.Proofs.Ytehjbhnlbjbhfaa.Dk
open Go Go.RowKit Go.Proofs.YtehjbhnlbjbhfaaW.PrintWords Go.Proofs.YtehjbhnlbjbhfaaW.PrintLast Go.Proofs.YtehjbhnlbjbhfaaW.PrintMore
set_option linter.unusedVariables false
def I64 (l : List Int) : Prop := ∀ x ∈ l, -9223372036854775808 ≤ x ∧ x ≤ 9223372036854775807
def Okk (s : DS) : Prop := Ok s ∧ I64 s.keep
theorem fl_setF (s : DS) (h : s.fs.length = 8) {i : Nat} (hi : i < 8) (f : Fl) (j : Nat) : fl (setF s i f) j = if i = j then f else fl s j := by
  unfold fl setF
  rw [List.getD_eq_getElem?_getD, List.getD_eq_getElem?_getD]
  simp only [List.getElem?_set]
  split
  · rename_i e; subst e; rw [if_pos (by omega)]; rfl
  · rfl
theorem Ok.setF {s : DS} (h : Ok s) {i : Nat} (hi : i < 8) {f : Fl} (h1 : f.cl = false → ∃ t, f.seen = f.lasts ++ t) (h2 : f.lasts.length ≤ 4194304) (h3 : f.seen.length ≤ 4194304) : Ok (setF s i f) := by
  refine ⟨by unfold Dk.setF; simp [h.len], ?_, ?_, ?_, h.fuse, h.room, h.keep⟩
  all_goals
    intro x hx
    rcases List.mem_or_eq_of_mem_set hx with hx | rfl
  · exact h.pre x hx
  · exact h1
  · exact h.big x hx
  · exact h2
  · exact h.told x hx
  · exact h3
theorem Ok.burn {s : DS} (h : Ok s) (n : Nat) : Ok (burnS s n) := by
  unfold burnS
  by_cases c : s.set = true ∧ (n : Int) < s.left
  · rw [if_pos c]
    exact ⟨h.len, h.pre, h.big, h.told, fun e => by
      have := h.fuse c.1
      show 1 ≤ s.left - (n : Int) ∧ s.left - (n : Int) ≤ 9223372036854775807
      omega, h.room, h.keep⟩
  · rw [if_neg c]; exact h
theorem burn_fs (s : DS) (n : Nat) : (burnS s n).fs = s.fs ∧ (burnS s n).keep = s.keep ∧ (burnS s n).room = s.room ∧ (burnS s n).off = s.off ∧ (burnS s n).set = s.set := by
  unfold burnS
  split <;> exact ⟨rfl, rfl, rfl, rfl, rfl⟩
theorem fl_burn (s : DS) (n i : Nat) : fl (burnS s n) i = fl s i := by unfold fl; rw [(burn_fs s n).1]
theorem Ok.doneC {s : DS} (h : Ok s) {i : Nat} (hi : i < 8) (n : Nat) : Ok (doneC i s n) := by
  unfold Dk.doneC
  split
  · exact h.setF hi (fun e => by cases e) (show (fl s i).lasts.length ≤ _ from h.big (fl s i) (h.fl_mem hi)) (by simp)
  · exact h
theorem Ok.doneY {s : DS} (h : Ok s) {i : Nat} (hi : i < 8) (n : Nat) : Ok (doneY i s n) := by
  unfold Dk.doneY
  split
  · exact h.setF hi (fun _ => ⟨[], (List.append_nil _).symm⟩) (show (fl s i).seen.length ≤ _ from h.told (fl s i) (h.fl_mem hi)) (show (fl s i).seen.length ≤ _ from h.told (fl s i) (h.fl_mem hi))
  · exact h
theorem Ok.doneA {s : DS} (h : Ok s) {i : Nat} (hi : i < 8) (b : List Int) (n : Nat) (hl : (fl s i).seen.length + b.length ≤ 4194304) : Ok (doneA i b s n) := by
  unfold Dk.doneA
  refine h.setF hi (fun e => ?_) (show (fl s i).lasts.length ≤ _ from h.big (fl s i) (h.fl_mem hi)) (by rw [List.length_append, List.length_take]; omega)
  obtain ⟨t, ht⟩ := h.pre _ (h.fl_mem hi) e
  exact ⟨t ++ b.take n, by rw [ht, List.append_assoc]⟩
theorem after_mem {keep : List Int} : ∀ (l : List Fl) (i : Nat) (f : Fl), f ∈ fallFs keep i l → ∃ f0 ∈ l, ∃ k, f = afterP f0 k := by
  intro l
  induction l with
  | nil => intro i f h; cases h
  | cons a l ih =>
    intro i f h
    rcases List.mem_cons.1 h with h | h
    · exact ⟨a, List.mem_cons_self .., _, h⟩
    · obtain ⟨f0, h1, k, h2⟩ := ih _ _ h
      exact ⟨f0, List.mem_cons_of_mem _ h1, k, h2⟩
theorem fall_len (keep : List Int) : ∀ (l : List Fl) (i : Nat), (fallFs keep i l).length = l.length := by
  intro l
  induction l with
  | nil => intro i; rfl
  | cons a l ih => intro i; simp [fallFs, ih]
theorem after_same (f : Fl) (k : Int) : (afterP f k).seen = (afterP f k).lasts ∧ (afterP f k).cl = false := by
  unfold afterP
  split
  · split <;> exact ⟨rfl, rfl⟩
  · exact ⟨rfl, rfl⟩
theorem after_len {f : Fl} (k : Int) (h1 : f.seen.length ≤ 4194304) (h2 : f.lasts.length ≤ 4194304) : (afterP f k).seen.length ≤ 4194304 := by
  unfold afterP
  split
  · split
    · show (f.seen.take _).length ≤ _; rw [List.length_take]; omega
    · show (f.seen.take _).length ≤ _; rw [List.length_take]; omega
  · exact h2
theorem Ok.fall {s : DS} (h : Ok s) (keep : List Int) : Ok (fallP s keep) := by
  refine ⟨by show (fallFs keep 0 s.fs).length = 8; rw [fall_len]; exact h.len, ?_, ?_, ?_, (fun e => by cases e), h.room, (show (0 : Nat) < 1000000000 by decide)⟩
  all_goals
    intro f hf
    obtain ⟨f0, h0, k, rfl⟩ := after_mem s.fs 0 f hf
  · intro _
    exact ⟨[], by rw [(after_same f0 k).1, List.append_nil]⟩
  · rw [← (after_same f0 k).1]; exact after_len k (h.told _ h0) (h.big _ h0)
  · exact after_len k (h.told _ h0) (h.big _ h0)
theorem Okk.fall {s : DS} (h : Okk s) (keep : List Int) : Okk (fallP s keep) := ⟨h.1.fall keep, fun x hx => by cases hx⟩
theorem act_okk {s : DS} (h : Okk s) (n : Nat) (done : DS → Nat → DS) (h1 : Ok (done (burnS s n) (burnN s n))) (h2 : (done (burnS s n) (burnN s n)).keep = s.keep) : Okk (actP s n done).1 := by
  have h3 : Okk (done (burnS s n) (burnN s n)) := ⟨h1, by rw [h2]; exact h.2⟩
  unfold actP
  split
  · exact h3.fall _
  · exact h3
theorem keepC (i : Nat) (s : DS) (n m : Nat) : (doneC i (burnS s n) m).keep = s.keep := by
  unfold doneC; split <;> exact (burn_fs s n).2.1
theorem keepY (i : Nat) (s : DS) (n m : Nat) : (doneY i (burnS s n) m).keep = s.keep := by
  unfold doneY; split <;> exact (burn_fs s n).2.1
theorem keepA (i : Nat) (b : List Int) (s : DS) (n m : Nat) : (doneA i b (burnS s n) m).keep = s.keep := (burn_fs s n).2.1
theorem Okk.clear {s : DS} (h : Okk s) (i : Int) : Okk (clearP s i).1 := by
  unfold clearP
  by_cases c : ableP s i ≠ 0
  · rw [if_pos c]; exact h
  · rw [if_neg c]
    rcases able_cases s i with d | ⟨_, j, hj, rfl, _, _⟩
    · exact absurd d c
    · rw [Int.toNat_natCast]; exact act_okk h 1 _ ((h.1.burn 1).doneC hj _) (keepC _ _ _ _)
theorem Okk.sync {s : DS} (h : Okk s) (i : Int) : Okk (syncP s i).1 := by
  unfold syncP
  by_cases c : ableP s i ≠ 0
  · rw [if_pos c]; exact h
  · rw [if_neg c]
    rcases able_cases s i with d | ⟨_, j, hj, rfl, _, _⟩
    · exact absurd d c
    · rw [Int.toNat_natCast]; exact act_okk h 1 _ ((h.1.burn 1).doneY hj _) (keepY _ _ _ _)
theorem fits {s : DS} (h : Ok s) {j : Nat} (hj : j < 8) (b : List Int) (c : ¬ s.room < (usedP s : Int) + (b.length : Int)) : (fl s j).seen.length + b.length ≤ 4194304 := by
  have h1 := sum_mem (s.fs.map fun f => f.seen.length) (fl s j).seen.length (List.mem_map.2 ⟨_, h.fl_mem hj, rfl⟩)
  have h2 := h.room
  unfold usedP at c
  omega
theorem Okk.append {s : DS} (h : Okk s) (i : Int) (b : List Int) : Okk (appendP s i b).1 := by
  unfold appendP
  by_cases c : ableP s i ≠ 0
  · rw [if_pos c]; exact h
  · rw [if_neg c]
    by_cases c2 : s.room < (usedP s : Int) + (b.length : Int)
    · rw [if_pos c2]; exact h
    · rw [if_neg c2]
      rcases able_cases s i with d | ⟨_, j, hj, rfl, _, _⟩
      · exact absurd d c
      · rw [Int.toNat_natCast]; exact act_okk h b.length _ ((h.1.burn _).doneA hj b _ (by rw [fl_burn]; exact fits h.1 hj b c2)) (keepA _ _ _ _ _)
theorem Okk.crash {s : DS} (h : Okk s) (keep : List Int) : Okk (crashP s keep).1 := by
  unfold crashP
  split
  · exact h
  · exact h.fall keep
theorem Okk.start {s : DS} (h : Okk s) : Okk (startP s).1 := by
  unfold startP
  split
  · exact h
  · exact ⟨⟨h.1.len, h.1.pre, h.1.big, h.1.told, h.1.fuse, h.1.room, h.1.keep⟩, h.2⟩
theorem Okk.arm {s : DS} (h : Okk s) (n : Int) (keep : List Int) (hn : n ≤ 9223372036854775807) (hk : I64 keep) (hl : keep.length < 1000000000) : Okk (armP s n keep).1 := by
  unfold armP
  split
  · exact h
  · split
    · exact h
    · exact ⟨⟨h.1.len, h.1.pre, h.1.big, h.1.told, fun _ => ⟨by show 1 ≤ n; omega, hn⟩, h.1.room, hl⟩, hk⟩
theorem newP_okk (room : Int) (h : 0 ≤ room ∧ room ≤ 4194304) : Okk (newP room) := by
  refine ⟨⟨rfl, ?_, ?_, ?_, (fun e => by cases e), h, (show (0 : Nat) < 1000000000 by decide)⟩, fun x hx => by cases hx⟩
  all_goals
    intro f hf
    have : f = nf := List.eq_of_mem_replicate hf
    subst this
  · intro _; exact ⟨[], rfl⟩
  · decide
  · decide
end Go.Proofs.Ytehjbhnlbjbhfaa.Dk
-- TpA
namespace Go.Proofs.Ytehjbhnlbjbhfaa.Tp
open Go Go.RowKit Go.Proofs.YtehjbhnlbjbhfaaW.PrintWords Go.Proofs.YtehjbhnlbjbhfaaW.PrintLast Go.Proofs.YtehjbhnlbjbhfaaW.PrintMore Go.Proofs.Ytehjbhnlbjbhfaa.Wire Go.Proofs.Ytehjbhnlbjbhfaa.Wk Go.Proofs.Ytehjbhnlbjbhfaa.Dk
set_option linter.unusedVariables false
def withinP (s : List Int) (lo hi : Int) (p : Nat) (er : Int) : Int × Nat × Int :=
  if er ≠ 0 then (0, p, er)
  else if (num (s.drop p)).2.2 ≠ 0 then (0, p, (num (s.drop p)).2.2)
  else if 4611686018427387904 < (num (s.drop p)).1 ∨ ((num (s.drop p)).1 : Int) < lo ∨ hi < ((num (s.drop p)).1 : Int) then (0, p, 5)
  else (((num (s.drop p)).1 : Int), p + (num (s.drop p)).2.1, 0)
def bytesE (s : List Int) (most : Int) (p : Nat) (er : Int) : List Int × Nat × Int := if er ≠ 0 then ([], p, er) else bytesP s p most
structure Reel where
  gen : Int
  base : List Int
  l : List (List Int)
structure TS where
  r : Reel
  file : Nat
  kept : Nat
def noReel : Reel := ⟨0, [], []⟩
def headR (s : List Int) (rest : List (List Int)) : Option Reel :=
  let a := withinP s 1 1099511627776 0 0
  let b := withinP s 0 1099511627776 a.2.1 a.2.2
  let c := bytesE s 8176 b.2.1 b.2.2
  if c.2.2 ≠ 0 ∨ c.2.1 < s.length ∨ (rest.length : Int) < b.1 then none else some ⟨a.1, c.1, rest⟩
def readT (b : List Int) : Reel × Bool :=
  match (allP b).1 with
  | [] => (noReel, decide (0 < b.length))
  | s :: rest => match headR s rest with
    | none => (noReel, true)
    | some r => (r, decide ((allP b).2 < b.length))
def sealE (d : List Int) : List Int × Int := if 8192 < d.length then ([], 4) else (sealP d, 0)
def headE (gen many : Int) (base : List Int) : List Int × Int := sealE (encs [gen, many] ++ recP base)
def tooLong (l : List (List Int)) : Bool := l.any fun d => decide (8192 < d.length)
def saveW (t : TS) (s : DS) (base : List Int) (l : List (List Int)) (all : List Int) : TS × DS × Int :=
  let f : Int := 1 - (t.file : Int)
  let c := clearP s f
  if c.2 ≠ 0 then (t, c.1, c.2)
  else let a := appendP c.1 f all
    if a.2 ≠ 0 then (t, a.1, a.2)
    else let y := syncP a.1 f
      if y.2 ≠ 0 then (t, y.1, y.2) else (⟨⟨t.r.gen + 1, base, l⟩, 1 - t.file, l.length⟩, y.1, 0)
def saveP (t : TS) (s : DS) (base : List Int) (l : List (List Int)) : TS × DS × Int :=
  if 1099511627776 ≤ t.r.gen then (t, s, 5)
  else if 8176 < base.length then (t, s, 4)
  else if (headE (t.r.gen + 1) (l.length : Int) base).2 ≠ 0 then (t, s, (headE (t.r.gen + 1) (l.length : Int) base).2)
  else if tooLong l = true then (t, s, 4)
  else saveW t s base l ((headE (t.r.gen + 1) (l.length : Int) base).1 ++ l.flatMap sealP)
def putP (t : TS) (s : DS) (d : List Int) : TS × DS × Int :=
  if 8192 < d.length then (t, s, 4)
  else let a := appendP s (t.file : Int) (sealP d)
    if a.2 ≠ 0 then (t, a.1, a.2) else (⟨⟨t.r.gen, t.r.base, t.r.l ++ [d]⟩, t.file, t.kept⟩, a.1, 0)
def syncT (t : TS) (s : DS) : TS × DS × Int :=
  let y := syncP s (t.file : Int)
  if y.2 ≠ 0 then (t, y.1, y.2) else (⟨t.r, t.file, t.r.l.length⟩, y.1, 0)
def pick (s : DS) (f : Nat) (was : TS × Bool) : TS × Bool :=
  let q := readT (fl s f).seen
  if was.1.r.gen < q.1.gen then (⟨q.1, f, 0⟩, q.2) else was
def picked (s : DS) : TS × Bool := pick s 1 (pick s 0 (⟨noReel, 1, 0⟩, false))
def openT (s : DS) : Option TS × DS × Int :=
  if ableP s 0 ≠ 0 then (none, s, ableP s 0)
  else
    let t : TS := ⟨(picked s).1.r, (picked s).1.file, (picked s).1.r.l.length⟩
    if t.r.gen = 0 ∨ (picked s).2 = true then
      (let w := saveP t s t.r.base t.r.l
       if w.2.2 ≠ 0 then (none, w.2.1, w.2.2) else (some w.1, w.2.1, 0))
    else (some t, s, 0)
end Go.Proofs.Ytehjbhnlbjbhfaa.Tp
-- Ext
namespace Go.Proofs.Ytehjbhnlbjbhfaa.Wire
open Go Go.RowKit Go.Proofs.YtehjbhnlbjbhfaaW.PrintWords Go.Proofs.YtehjbhnlbjbhfaaW.PrintLast Go.Proofs.YtehjbhnlbjbhfaaW.PrintMore
set_option linter.unusedVariables false
def u64s (l : List Int) : Bool := l.all fun x => decide (0 ≤ x ∧ x < 18446744073709551616)
theorem u64s_iff {l : List Int} : u64s l = true ↔ ∀ x ∈ l, 0 ≤ x ∧ x < 18446744073709551616 := by simp [u64s]
theorem C_some {w : World} {A : Option Addr} {l : List Int} (h : Kd.C (Kd.int .u8) w A l.length l) : A = none → l = [] := by
  intro e
  subst e
  cases l with
  | nil => rfl
  | cons a r => obtain ⟨ad, c, e, _⟩ := Kd.C_get h (0 : Int) 0 (by decide) (by simp); cases e
theorem Put_own (A0 : Option Addr) (c0 : Nat) (l0 : List Int) (A1 : Option Addr) (c1 : Nat) (l1 : List Int) (w : World) (hr0 : Kd.C (Kd.int .u8) w A0 l0.length l0) (hc0 : l0.length ≤ c0) (hr1 : Kd.C (Kd.int .u64) w A1 l1.length l1) (hc1 : l1.length ≤ c1)
    (h1 : l1 ≠ []) (h2 : u64s l1 = true) (h3 : l0.length + 10 * l1.length < 140737488355328) :
    Calls Try.prog 77 #[.slice A0 l0.length c0, .slice A1 l1.length c1] w fun e w' => ∃ v0_ : Value, e = .returned (v0_) ∧ Kd.R (Kd.int .u8) 5 w' w.heap.size (fun _ => True) v0_ (l0 ++ encs l1) ∧ Below w.heap.size w w' := by
  refine (Put_any A0 c0 l0 A1 c1 l1 w hr0 hc0 hr1 hc1 (C_some hr0) (u64s_iff.1 h2) h3).mono ?_
  rintro e w' ⟨v, rfl, h | h, hb⟩
  · obtain ⟨_, hx, _, _⟩ := h
    exact absurd (encs_nil (List.append_cancel_left (hx.trans (List.append_nil _).symm))) h1
  · exact ⟨v, rfl, h, hb⟩
end Go.Proofs.Ytehjbhnlbjbhfaa.Wire
-- PTapePlaysx0
namespace Go.Proofs.Ytehjbhnlbjbhfaa.PTapePlays
open Go.RowKit Go.Proofs.YtehjbhnlbjbhfaaW.PrintWords Go.Proofs.YtehjbhnlbjbhfaaW.PrintLast Go.Proofs.YtehjbhnlbjbhfaaW.PrintMore
attribute [local go_sem] max2_int min2_int max_two min_two
set_option linter.unusedVariables false
set_option linter.unusedSimpArgs false
def errW : Option Int → Value
  | none => .nilIface
  | some c => .iface 0 (.int .i64 c)
theorem errW_none : errW none = .nilIface := rfl
theorem errW_some (c : Int) : errW (some c) = .iface 0 (.int .i64 c) := rfl
theorem info5 : (Try.prog.info? 5).map (fun i => (i.zero, i.size, i.bytes)) = some (some (.int .u8 0), 1, 1) := by kernel_rfl
theorem info9 : (Try.prog.info? 9).map (fun i => (i.zero, i.size, i.bytes)) = some (some (.string ⟨#[]⟩), 1, 16) := by kernel_rfl
def rd_L1 (xs : List (List Int)) (i : Int) : (List Int) := xs.getD i.toNat ([] : List Int)
theorem at_L1 {w : World} {A : Option Addr} {n : Nat} {xs : List (List Int)} (h : Kd.C (Kd.slice 5 (Kd.int .u8)) w A n xs) (i : Int) (h0 : 0 ≤ i) (h1 : i < n) : ∃ ad A0 c0, A = some ad ∧ w.cell? (ad.add i.toNat) = some (.slice A0 (rd_L1 xs i).length c0) ∧ (rd_L1 xs i).length ≤ c0 ∧ (Kd.int .u8).C w A0 (rd_L1 xs i).length (rd_L1 xs i) := by
  obtain ⟨ad, c, e, _, hK, hc0⟩ := Kd.C_get h ([] : List Int) i h0 h1
  have hc : ∀ j u, c[j]? = some u → w.cell? (ad.add (i.toNat * 1 + j)) = some u := hc0
  obtain ⟨A0, c0, rfl, l0, g0⟩ := hK
  exact ⟨ad, A0, c0, e, by have hq := hc 0 _ rfl; rwa [Nat.mul_one, Nat.add_zero] at hq, l0, g0⟩
def rd_L5 (xs : List (List (List Int))) (i : Int) : (List (List Int)) := xs.getD i.toNat ([] : List (List Int))
structure S79 where
  f0 : Int
  f1 : Int
  f2 : (List Int)
  f3 : (List (List Int))
  f4 : (List Int)
def z79 : S79 := ⟨(0 : Int), (0 : Int), ([] : List Int), ([] : List (List Int)), ([] : List Int)⟩
def k79 : Kd S79 := Kd.iso (Kd.pair (Kd.int .i64) (Kd.pair (Kd.int .i64) (Kd.pair (Kd.slice 5 (Kd.int .u8)) (Kd.pair (Kd.slice 32 (Kd.slice 5 (Kd.int .u8))) (Kd.slice 3 (Kd.int .i64)))))) (fun x : S79 => (x.f0, x.f1, x.f2, x.f3, x.f4))
theorem k79_open {w : World} {x : S79} {cs : List Value} (h : k79.K w x cs) : ∃ A2 c2 A3 c3 A4 c4, cs = [.int .i64 x.f0, .int .i64 x.f1, .slice A2 x.f2.length c2, .slice A3 x.f3.length c3, .slice A4 x.f4.length c4] ∧ x.f2.length ≤ c2 ∧ (Kd.int .u8).C w A2 x.f2.length x.f2 ∧ x.f3.length ≤ c3 ∧ (Kd.slice 5 (Kd.int .u8)).C w A3 x.f3.length x.f3 ∧ x.f4.length ≤ c4 ∧ (Kd.int .i64).C w A4 x.f4.length x.f4 := by
  obtain ⟨_, _, rfl, rfl, ⟨_, _, rfl, rfl, ⟨_, _, rfl, ⟨A2, c2, rfl, l2, g2⟩, ⟨_, _, rfl, ⟨A3, c3, rfl, l3, g3⟩, ⟨A4, c4, rfl, l4, g4⟩⟩⟩⟩⟩ := h
  exact ⟨A2, c2, A3, c3, A4, c4, rfl, l2, g2, l3, g3, l4, g4⟩
def rd_T79 (xs : List S79) (i : Int) : S79 := xs.getD i.toNat z79
theorem at_T79 {w : World} {A : Option Addr} {n : Nat} {xs : List S79} (h : Kd.C k79 w A n xs) (i : Int) (h0 : 0 ≤ i) (h1 : i < n) : ∃ ad A2 c2 A3 c3 A4 c4, A = some ad ∧ w.cell? (ad.add (i.toNat * 5)) = some (.int .i64 (rd_T79 xs i).f0) ∧ w.cell? ⟨(ad.add (i.toNat * 5)).block, (ad.add (i.toNat * 5)).off + 1, none⟩ = some (.int .i64 (rd_T79 xs i).f1) ∧ w.cell? ⟨(ad.add (i.toNat * 5)).block, (ad.add (i.toNat * 5)).off + 2, none⟩ = some (.slice A2 (rd_T79 xs i).f2.length c2) ∧ w.cell? ⟨(ad.add (i.toNat * 5)).block, (ad.add (i.toNat * 5)).off + 3, none⟩ = some (.slice A3 (rd_T79 xs i).f3.length c3) ∧ w.cell? ⟨(ad.add (i.toNat * 5)).block, (ad.add (i.toNat * 5)).off + 4, none⟩ = some (.slice A4 (rd_T79 xs i).f4.length c4) ∧ (rd_T79 xs i).f2.length ≤ c2 ∧ (Kd.int .u8).C w A2 (rd_T79 xs i).f2.length (rd_T79 xs i).f2 ∧ (rd_T79 xs i).f3.length ≤ c3 ∧ (Kd.slice 5 (Kd.int .u8)).C w A3 (rd_T79 xs i).f3.length (rd_T79 xs i).f3 ∧ (rd_T79 xs i).f4.length ≤ c4 ∧ (Kd.int .i64).C w A4 (rd_T79 xs i).f4.length (rd_T79 xs i).f4 := by
  obtain ⟨ad, c, e, _, hK, hc0⟩ := Kd.C_get h z79 i h0 h1
  have hc : ∀ j u, c[j]? = some u → w.cell? (ad.add (i.toNat * 5 + j)) = some u := hc0
  obtain ⟨A2, c2, A3, c3, A4, c4, rfl, l2, g2, l3, g3, l4, g4⟩ := k79_open hK
  exact ⟨ad, A2, c2, A3, c3, A4, c4, e, hc 0 _ rfl, by rw [← add_field _ _ 1 (by omega)]; exact hc 1 _ rfl, by rw [← add_field _ _ 2 (by omega)]; exact hc 2 _ rfl, by rw [← add_field _ _ 3 (by omega)]; exact hc 3 _ rfl, by rw [← add_field _ _ 4 (by omega)]; exact hc 4 _ rfl, l2, g2, l3, g3, l4, g4⟩
def rd_L8 (xs : List (List S79)) (i : Int) : (List S79) := xs.getD i.toNat ([] : List S79)
theorem at_L8 {w : World} {A : Option Addr} {n : Nat} {xs : List (List S79)} (h : Kd.C (Kd.slice 79 k79) w A n xs) (i : Int) (h0 : 0 ≤ i) (h1 : i < n) : ∃ ad A0 c0, A = some ad ∧ w.cell? (ad.add i.toNat) = some (.slice A0 (rd_L8 xs i).length c0) ∧ (rd_L8 xs i).length ≤ c0 ∧ k79.C w A0 (rd_L8 xs i).length (rd_L8 xs i) := by
  obtain ⟨ad, c, e, _, hK, hc0⟩ := Kd.C_get h ([] : List S79) i h0 h1
  have hc : ∀ j u, c[j]? = some u → w.cell? (ad.add (i.toNat * 1 + j)) = some u := hc0
  obtain ⟨A0, c0, rfl, l0, g0⟩ := hK
  exact ⟨ad, A0, c0, e, by have hq := hc 0 _ rfl; rwa [Nat.mul_one, Nat.add_zero] at hq, l0, g0⟩
end Go.Proofs.Ytehjbhnlbjbhfaa.PTapePlays
-- PTapePlaysx1
namespace Go.Proofs.Ytehjbhnlbjbhfaa.PTapePlays
open Go.RowKit Go.Proofs.YtehjbhnlbjbhfaaW.PrintWords Go.Proofs.YtehjbhnlbjbhfaaW.PrintLast Go.Proofs.YtehjbhnlbjbhfaaW.PrintMore
attribute [local go_sem] max2_int min2_int max_two min_two
set_option linter.unusedVariables false
set_option linter.unusedSimpArgs false
def slices_Clone_byte_byte.f (l0 : List Int) : Option (List Int) := if l0.length < 140737488355328 then some l0 else none
def wire_Put.f (l0 : List Int) (l1 : List Int) : Option (List Int) := if l1 ≠ [] ∧ Go.Proofs.Ytehjbhnlbjbhfaa.Wire.u64s l1 = true ∧ l0.length + 10 * l1.length < 140737488355328 then some (l0 ++ Go.Proofs.Ytehjbhnlbjbhfaa.Wire.encs l1) else none
theorem wire_Put.calls (A0 : Option Addr) (c0 : Nat) (l0 : List Int) (A1 : Option Addr) (c1 : Nat) (l1 : List Int) (r : List Int) (w : World) (hr0 : Kd.C (Kd.int .u8) w A0 l0.length l0) (hc0 : l0.length ≤ c0) (hr1 : Kd.C (Kd.int .u64) w A1 l1.length l1) (hc1 : l1.length ≤ c1) (h : wire_Put.f l0 l1 = some r) :
    Calls Try.prog 77 #[.slice A0 l0.length c0, .slice A1 l1.length c1] w fun e w' => ∃ v0_ : Value, e = .returned (v0_) ∧ Kd.R (Kd.int .u8) 5 w' w.heap.size (fun _ => True) v0_ r ∧ Below w.heap.size w w' := by
  unfold wire_Put.f at h
  by_cases c : l1 ≠ [] ∧ Go.Proofs.Ytehjbhnlbjbhfaa.Wire.u64s l1 = true ∧ l0.length + 10 * l1.length < 140737488355328
  · rw [if_pos c] at h
    obtain rfl := Option.some.inj h
    exact Go.Proofs.Ytehjbhnlbjbhfaa.Wire.Put_own A0 c0 l0 A1 c1 l1 w hr0 hc0 hr1 hc1 c.1 c.2.1 c.2.2
  · rw [if_neg c] at h; cases h
def wire_PutBytes.f (l0 : List Int) (l1 : List Int) : Option (List Int) := (wire_Put.f l0 (([IntKind.u64.wrap ((l1.length : Int))] : List Int))).bind fun t117 => (if t117.length + l1.length < 140737488355328 then (some (t117 ++ l1)) else (none))
set_option maxHeartbeats 8000000 in
set_option maxRecDepth 100000 in
theorem wire_PutBytes.calls (A0 : Option Addr) (c0 : Nat) (l0 : List Int) (A1 : Option Addr) (c1 : Nat) (l1 : List Int) (r : List Int) (w : World) (hr0 : Kd.C (Kd.int .u8) w A0 l0.length l0) (hc0 : l0.length ≤ c0) (hr1 : Kd.C (Kd.int .u8) w A1 l1.length l1) (hc1 : l1.length ≤ c1) (h : wire_PutBytes.f l0 l1 = some r) :
    Calls Try.prog 74 #[.slice A0 l0.length c0, .slice A1 l1.length c1] w fun e w' => ∃ v0_ : Value, e = .returned (v0_) ∧ Kd.R (Kd.int .u8) 5 w' w.heap.size (fun _ => True) v0_ r ∧ Below w.heap.size w w' := by
  have HR0 := Aside0.mk hr0
  have HC0 := Aside0.mk hc0
  clear hr0 hc0
  have HR1 := Aside0.mk hr1
  have HC1 := Aside0.mk hc1
  clear hr1 hc1
  have HB := Aside0.mk (Below.refl w.heap.size w)
  have H : ((wire_Put.f l0 (([IntKind.u64.wrap ((l1.length : Int))] : List Int))).bind fun t117 => (if t117.length + l1.length < 140737488355328 then (some (t117 ++ l1)) else (none))) = some r := h
  clear h
  obtain ⟨y114, hy114⟩ : ∃ y_ : List Int, y_ = (([IntKind.u64.wrap ((l1.length : Int))] : List Int)) := ⟨_, rfl⟩
  replace H : ((wire_Put.f l0 y114).bind fun t117 => (if t117.length + l1.length < 140737488355328 then (some (t117 ++ l1)) else (none))) = some r := by first | (rw [hy114]; with_reducible exact H) | (have H2_ := (Option.bind_some _ _).symm.trans H; rw [hy114]; with_reducible exact H2_) | (have H2_ := (Option.bind_some _ _).symm.trans H; with_reducible exact H2_) | with_reducible exact H | (rw [hy114]; exact H) | exact H
  have Ny114 := Aside0.mk hy114
  clear hy114
  replace H := Option.bind_eq_some_iff.mp H
  obtain ⟨t117, A30, H⟩ := H
  replace H : (if t117.length + l1.length < 140737488355328 then (some (t117 ++ l1)) else (none)) = some r := H
  have A3 := Aside0.mk A30
  clear A30
  by_cases c4 : t117.length + l1.length < 140737488355328
  · rw [if_pos c4] at H
    have LMc4 := Aside0.mk c4
    clear c4
    obtain ⟨y120, hy120⟩ : ∃ y_ : List Int, y_ = (t117 ++ l1) := ⟨_, rfl⟩
    replace H : (some y120) = some r := by first | (rw [hy120]; with_reducible exact H) | (have H2_ := (Option.bind_some _ _).symm.trans H; rw [hy120]; with_reducible exact H2_) | (have H2_ := (Option.bind_some _ _).symm.trans H; with_reducible exact H2_) | with_reducible exact H | (rw [hy120]; exact H) | exact H
    have Ny120 := Aside0.mk hy120
    clear hy120
    obtain rfl := Option.some.inj H
    go_enter Try.func74, Try.ntmps74
    go_wp2_with (first | ((with_reducible refine gate_dst (N := 9) rfl ?_); refine Kd.R_lit (Kd.int .u64) _ 130 ?hg (N := 9) ?hd (xs := ([IntKind.u64.wrap ((l1.length : Int))] : List Int)) (inner := [.int .u64 (IntKind.u64.wrap ((l1.length : Int)))]) (ok := fun _ => True) (okp := fun _ => True) ?hr ?hp (fun _ hk => hk) trivial (Below.refl _ _) (Nat.le_refl _) (by simp) ?_; (case hd => rfl); (case hg => rfl); (case hr => first | (go_simp; done) | (go_simp; rfl)); (case hp => exact (Reps.one (show Kd.M (Kd.int .u64) _ _ _ (IntKind.u64.wrap ((l1.length : Int))) [.int .u64 (IntKind.u64.wrap ((l1.length : Int)))] from rfl) (Reps.none _ _))); intro v115 w5 ho6 hb hg_ hnew_; clear hg_ hnew_; (first | rw [← Ny114.out] at ho6 | (simp only [Int.reduceToNat] at ho6; rw [← Ny114.out] at ho6)); have n0_ := Aside0.mk (Kd.R_lower ho6 (below_size (by repeat (first | (with_reducible first | exact HB.out | apply below_alloc | apply pw_below_drewN | apply below_drew1) | exact HB.out)))); have n1_ := Aside0.mk (below_step (by repeat (first | (with_reducible first | exact HB.out | apply below_alloc | apply pw_below_drewN | apply below_drew1) | exact HB.out)) hb); clear HB; have HO116 := n0_; have HB := n1_; clear n0_ n1_; clear hb ho6; obtain ⟨Ao7, co7, eo7⟩ := Kd.R_slice HO116.out; subst eo7) | ((with_reducible refine gate_callee (f := 77) rfl ?_); refine goesL_ (some 10) rfl rfl Try.func77 (by kernel_rfl) rfl #[.slice A0 l0.length c0, .slice Ao7 y114.length co7] rfl (by (try simp only [List.map_toArray, List.map_cons, List.map_nil]); first | done | rfl | (simp only [List.length_drop, List.length_take]; rfl)) ?_; (with_reducible refine (wire_Put.calls _ _ l0 _ _ y114 t117 _ ?side1 ?side2 ?side3 ?side4 A3.out).mono ?_); (case side1 => repeat (first | exact (Kd.C_below HR0.out HB.out) | (with_reducible refine Kd.C_alloc ?_ _) | (with_reducible refine Kd.C_drewN ?_ _) | (with_reducible refine Kd.C_drew ?_))); (case side2 => exact HC0.out); (case side3 => repeat (first | exact (Kd.R_reads' HO116.out).2.2 | (with_reducible refine Kd.C_alloc ?_ _) | (with_reducible refine Kd.C_drewN ?_ _) | (with_reducible refine Kd.C_drew ?_))); (case side4 => exact (Kd.R_reads' HO116.out).2.1); rintro e w8 ⟨v118, rfl, ho0, hb⟩; refine ⟨_, rfl, ?_⟩; have n0_ := Aside0.mk (Kd.R_below (by (with_reducible repeat (first | apply Kd.R_alloc | apply Kd.R_drewN | apply Kd.R_drew)); exact HO116.out) hb); have n1_ := Aside0.mk (Kd.R_lower ho0 (below_size (by repeat (first | (with_reducible first | exact HB.out | apply below_alloc | apply pw_below_drewN | apply below_drew1) | exact HB.out)))); have n2_ := Aside0.mk (below_step (by repeat (first | (with_reducible first | exact HB.out | apply below_alloc | apply pw_below_drewN | apply below_drew1) | exact HB.out)) hb); clear HO116; clear HB; have HO116 := n0_; have HO119 := n1_; have HB := n2_; clear n0_ n1_ n2_; (try clear hb); (try clear hb2); (try clear hk); (try clear hi); (try clear ho0)) | ((with_reducible refine gate_builtin (b := .append) (xs := #[.tmp 10, .tmp 11]) rfl ?_); at_builtin; refine Kd.R_append_rows (Kd.int .u8) (w0 := w) w.heap.size rfl (.tmp 10) (.tmp 11) 32 5 (.int .u8 0) 1 rfl Try.underlying32 info5 rfl (by decide) (by omega) v118 t117 l1 _ _ _ (fun _ => True) (fun _ => False) rfl rfl ?aO ?aR (fun _ _ h => h) (fun _ h => h.elim) ?aF ?aB ?aS ?aL ?_; (case aR => repeat (first | exact (Kd.C_below HR1.out HB.out) | (with_reducible refine Kd.C_alloc ?_ _) | (with_reducible refine Kd.C_drewN ?_ _) | (with_reducible refine Kd.C_drew ?_))); (case aB => exact (by repeat (first | (with_reducible first | exact HB.out | apply below_alloc | apply pw_below_drewN | apply below_drew1) | exact HB.out))); (case aF => exact (fun _ _ => trivial)); (case aO => exact (by (with_reducible repeat (first | apply Kd.R_alloc | apply Kd.R_drewN | apply Kd.R_drew)); exact HO119.out)); (case aS => exact (below_size (by repeat (first | (with_reducible first | exact HB.out | apply below_alloc | apply pw_below_drewN | apply below_drew1) | exact HB.out)))); (case aL => have := LMc4.out; omega); intro v121 w9 ho hb hg hat; rw [← Ny120.out] at ho; have n0_ := Aside0.mk (Kd.R_over' (by (with_reducible repeat (first | apply Kd.R_alloc | apply Kd.R_drewN | apply Kd.R_drew)); exact HO116.out) (Kd.R_typed (by (with_reducible repeat (first | apply Kd.R_alloc | apply Kd.R_drewN | apply Kd.R_drew)); exact HO119.out)) (by decide) hg); have n1_ := Aside0.mk (hb); have n2_ := Aside0.mk (ho); clear HO116; clear HB; clear HO119; have HO116 := n0_; have HB := n1_; have HO122 := n2_; clear n0_ n1_ n2_; clear ho hb hg hat))
    go_ret
    exact ⟨_, by first | rfl | (simp [errW_none, errW_some] <;> rfl) | (simp [*, errW_none, errW_some] <;> rfl), by (with_reducible repeat (first | apply Kd.R_alloc | apply Kd.R_drewN | apply Kd.R_drew)); exact HO122.out, by repeat (first | (with_reducible first | exact HB.out | apply below_alloc | apply pw_below_drewN | apply below_drew1) | exact HB.out)⟩
  · rw [if_neg c4] at H
    exact absurd H (by simp)
def wire_four.f (a0 : Int) : Option (List Int) := some (([(a0 / 16777216) % 256, (a0 / 65536) % 256, (a0 / 256) % 256, (a0) % 256] : List Int))
set_option maxHeartbeats 8000000 in
set_option maxRecDepth 100000 in
theorem wire_four.calls (a0 : Int) (r : List Int) (w : World) (h : wire_four.f a0 = some r) :
    Calls Try.prog 75 #[.int .u32 a0] w fun e w' => ∃ v0_ : Value, e = .returned (v0_) ∧ Kd.R (Kd.int .u8) 5 w' w.heap.size (fun _ => True) v0_ r ∧ Below w.heap.size w w' := by
  have HB := Aside0.mk (Below.refl w.heap.size w)
  have H : (some (([(a0 / 16777216) % 256, (a0 / 65536) % 256, (a0 / 256) % 256, (a0) % 256] : List Int))) = some r := h
  clear h
  obtain ⟨y123, hy123⟩ : ∃ y_ : List Int, y_ = (([(a0 / 16777216) % 256, (a0 / 65536) % 256, (a0 / 256) % 256, (a0) % 256] : List Int)) := ⟨_, rfl⟩
  replace H : (some y123) = some r := by first | (rw [hy123]; with_reducible exact H) | (have H2_ := (Option.bind_some _ _).symm.trans H; rw [hy123]; with_reducible exact H2_) | (have H2_ := (Option.bind_some _ _).symm.trans H; with_reducible exact H2_) | with_reducible exact H | (rw [hy123]; exact H) | exact H
  have Ny123 := Aside0.mk hy123
  clear hy123
  obtain rfl := Option.some.inj H
  go_enter Try.func75, Try.ntmps75
  go_wp2_with (first | ((with_reducible refine gate_dst (N := 14) rfl ?_); refine Kd.R_lit (Kd.int .u8) _ 5 ?hg (N := 14) ?hd (xs := ([(a0 / 16777216) % 256, (a0 / 65536) % 256, (a0 / 256) % 256, (a0) % 256] : List Int)) (inner := [.int .u8 ((a0 / 16777216) % 256), .int .u8 ((a0 / 65536) % 256), .int .u8 ((a0 / 256) % 256), .int .u8 ((a0) % 256)]) (ok := fun _ => True) (okp := fun _ => True) ?hr ?hp (fun _ hk => hk) trivial (Below.refl _ _) (Nat.le_refl _) (by simp) ?_; (case hd => rfl); (case hg => rfl); (case hr => first | (go_simp; done) | (go_simp; rfl)); (case hp => exact (Reps.one (show Kd.M (Kd.int .u8) _ _ _ ((a0 / 16777216) % 256) [.int .u8 ((a0 / 16777216) % 256)] from rfl) (Reps.one (show Kd.M (Kd.int .u8) _ _ _ ((a0 / 65536) % 256) [.int .u8 ((a0 / 65536) % 256)] from rfl) (Reps.one (show Kd.M (Kd.int .u8) _ _ _ ((a0 / 256) % 256) [.int .u8 ((a0 / 256) % 256)] from rfl) (Reps.one (show Kd.M (Kd.int .u8) _ _ _ ((a0) % 256) [.int .u8 ((a0) % 256)] from rfl) (Reps.none _ _)))))); intro v124 w2 ho3 hb hg_ hnew_; clear hg_ hnew_; (first | rw [← Ny123.out] at ho3 | (simp only [Int.reduceToNat] at ho3; rw [← Ny123.out] at ho3)); have n0_ := Aside0.mk (Kd.R_lower ho3 (below_size (by repeat (first | (with_reducible first | exact HB.out | apply below_alloc | apply pw_below_drewN | apply below_drew1) | exact HB.out)))); have n1_ := Aside0.mk (below_step (by repeat (first | (with_reducible first | exact HB.out | apply below_alloc | apply pw_below_drewN | apply below_drew1) | exact HB.out)) hb); clear HB; have HO125 := n0_; have HB := n1_; clear n0_ n1_; clear hb ho3))
  go_ret
  exact ⟨_, by first | rfl | (simp [errW_none, errW_some] <;> rfl) | (simp [*, errW_none, errW_some] <;> rfl), by (with_reducible repeat (first | apply Kd.R_alloc | apply Kd.R_drewN | apply Kd.R_drew)); exact HO125.out, by repeat (first | (with_reducible first | exact HB.out | apply below_alloc | apply pw_below_drewN | apply below_drew1) | exact HB.out)⟩
mutual
def wire_Sum.l0 : Nat → Int → List Int → Int → Int → Option (Int)
  | 0, _, _, _, _ => none
  | k + 1, x3, x7, x8, x9 => if x9 < x8 then (if 0 ≤ x9 then (if x9 < (x7.length : Int) then (wire_Sum.l1 k (Go.bits .xor .u32 x3 ((rd x7 x9) % 4294967296)) x7 x8 x9 0) else (none)) else (none)) else (some (Go.bits .xor .u32 4294967295 x3))
def wire_Sum.l1 : Nat → Int → List Int → Int → Int → Int → Option (Int)
  | 0, _, _, _, _, _ => none
  | k + 1, x3, x7, x8, x9, x17 => if x17 < 8 then (wire_Sum.l1 k (Go.bits .xor .u32 (x3 / 2) (Go.bits .and .u32 2197175160 ((-(Go.bits .and .u32 x3 1)) % 4294967296))) x7 x8 x9 (wrap64 (x17 + 1))) else (wire_Sum.l0 k x3 x7 x8 (wrap64 (x9 + 1)))
end
def wire_Sum.f (k : Nat) (l0 : List Int) : Option (Int) := wire_Sum.l0 k 4294967295 l0 (l0.length : Int) 0
set_option maxHeartbeats 8000000 in
set_option maxRecDepth 100000 in
theorem wire_Sum.calls (k : Nat) (A0 : Option Addr) (c0 : Nat) (l0 : List Int) (r : Int) (w : World) (hr0 : Kd.C (Kd.int .u8) w A0 l0.length l0) (hc0 : l0.length ≤ c0) (h : wire_Sum.f k l0 = some r) :
    Calls Try.prog 76 #[.slice A0 l0.length c0] w fun e w' => e = .returned (.int .u32 r) ∧ Drawn0 w w' := by
  have HR0 := Aside0.mk hr0
  have HC0 := Aside0.mk hc0
  clear hr0 hc0
  have H : (wire_Sum.l0 k 4294967295 l0 (l0.length : Int) 0) = some r := h
  clear h
  have H' := Aside0.mk H
  clear H
  go_enter Try.func76, Try.ntmps76
  go_wp2
  go_loopg [3, 9] k (fun kq v3 v9 w' => ∃ (x3_1 : Int) (x9_1 : Int), v3 = .int .u32 x3_1 ∧ v9 = .int .i64 x9_1 ∧ Aside0 (wire_Sum.l0 kq x3_1 l0 (l0.length : Int) x9_1 = some r) ∧ Aside0 (kq ≤ k) ∧ Drawn0 w w')
  case atStart => exact ⟨(4294967295), (0), (by first | rfl | (simp; done) | (simp [*]; done)), (by first | rfl | (simp; done) | (simp [*]; done)), H', ⟨Nat.le_refl _⟩, by repeat (first | exact Drawn0.refl _ | apply Drawn0.step)⟩
  case round =>
    clear H'
    obtain ⟨x3_1, x9_1, rfl, rfl, HA, HK1, ⟨m1, rfl⟩⟩ := hrel
    cases gk with
    | zero => exact absurd HA.out (by simp [wire_Sum.l0])
    | succ k1 =>
      have H := HA.out
      clear HA
      simp only [wire_Sum.l0] at H
      by_cases c2 : x9_1 < (l0.length : Int)
      · rw [if_pos c2] at H
        have c2b0 : decide (x9_1 < (l0.length : Int)) = true := decide_eq_true c2
        clear c2
        by_cases c3 : 0 ≤ x9_1
        · rw [if_pos c3] at H
          have c3b0 : decide (0 ≤ x9_1) = true := decide_eq_true c3
          clear c3
          by_cases c4 : x9_1 < (l0.length : Int)
          · rw [if_pos c4] at H
            have c4b0 : decide (x9_1 < (l0.length : Int)) = true := decide_eq_true c4
            clear c4
            have H' := Aside0.mk H
            clear H
            have p126 : 0 ≤ (x9_1 : Int) := of_decide_eq_true (by first | (with_reducible assumption) | assumption)
            have q126 : x9_1 < (l0.length : Int) := of_decide_eq_true (by first | (with_reducible assumption) | assumption)
            obtain ⟨ad126, e126, hx126_0⟩ := Kd.at_int HR0.out x9_1 p126 q126
            cases e126
            replace p126 := eq_true p126
            replace q126 := eq_true q126
            go_wp2
            go_loopg [3, 17] k1 (fun kq v3 v17 w' => ∃ (x3_2 : Int) (x17_2 : Int), v3 = .int .u32 x3_2 ∧ v17 = .int .i64 x17_2 ∧ Aside0 (wire_Sum.l1 kq x3_2 l0 (l0.length : Int) x9_1 x17_2 = some r) ∧ Aside0 (kq ≤ k1) ∧ Drawn0 w w')
            case atStart => exact ⟨(Go.bits .xor .u32 x3_1 ((rd l0 x9_1) % 4294967296)), (0), (by first | rfl | (simp; done) | (simp [*]; done)), (by first | rfl | (simp; done) | (simp [*]; done)), H', ⟨Nat.le_refl _⟩, by repeat (first | exact Drawn0.refl _ | apply Drawn0.step)⟩
            case round =>
              clear H'
              try clear p1
              try clear q1
              try clear hx1
              try clear c2
              try clear c2b0
              try clear p2
              try clear c3
              try clear c3b0
              try clear c4
              try clear c4b0
              try clear hx126_0
              try clear p126
              try clear q126
              obtain ⟨x3_2, x17_2, rfl, rfl, HA, HK2, ⟨m2, rfl⟩⟩ := hrel
              cases gk with
              | zero => exact absurd HA.out (by simp [wire_Sum.l1])
              | succ k2 =>
                have H := HA.out
                clear HA
                simp only [wire_Sum.l1] at H
                by_cases c5 : x17_2 < 8
                · rw [if_pos c5] at H
                  have c5b0 : decide (x17_2 < 8) = true := decide_eq_true c5
                  clear c5
                  have H' := Aside0.mk H
                  clear H
                  go_wp2
                  go_roundg k2
                  case measure => have := HK1.out; have := HK2.out; omega
                  case rel => exact ⟨(Go.bits .xor .u32 (x3_2 / 2) (Go.bits .and .u32 2197175160 ((-(Go.bits .and .u32 x3_2 1)) % 4294967296))), (wrap64 (x17_2 + 1)), (by first | rfl | (simp; done) | (simp [*]; done)), (by first | rfl | (simp; done) | (simp [*]; done)), H', ⟨by have := HK1.out; have := HK2.out; omega⟩, by repeat (first | exact Drawn0.refl _ | apply Drawn0.step)⟩
                · rw [if_neg c5] at H
                  have c5b0 : decide (x17_2 < 8) = false := decide_eq_false c5
                  clear c5
                  have H' := Aside0.mk H
                  clear H
                  go_wp2
                  go_roundg k2
                  case measure => have := HK1.out; have := HK2.out; omega
                  case rel => exact ⟨(x3_2), (wrap64 (x9_1 + 1)), (by first | rfl | (simp; done) | (simp [*]; done)), (by first | rfl | (simp; done) | (simp [*]; done)), H', ⟨by have := HK1.out; have := HK2.out; omega⟩, by repeat (first | exact Drawn0.refl _ | apply Drawn0.step)⟩
          · rw [if_neg c4] at H
            exact absurd H (by simp)
        · rw [if_neg c3] at H
          exact absurd H (by simp)
      · rw [if_neg c2] at H
        have c2b0 : decide (x9_1 < (l0.length : Int)) = false := decide_eq_false c2
        clear c2
        obtain rfl := Option.some.inj H
        go_wp2
        go_ret
        exact ⟨by first | rfl | (simp; done) | (simp [*]; done), by repeat (first | exact Drawn0.refl _ | apply Drawn0.step)⟩
def wire_Seal.f (k : Nat) (l0 : List Int) : Option (List Int × Int) := if (l0.length : Int) > 8192 then (some (([] : List Int), 4)) else ((wire_PutBytes.f ([] : List Int) l0).bind fun t127 => ((wire_Sum.f k t127).bind fun t130 => ((wire_four.f t130).bind fun t131 => (if t127.length + t131.length < 140737488355328 then (some ((t127 ++ t131), 0)) else (none)))))
set_option maxHeartbeats 8000000 in
set_option maxRecDepth 100000 in
theorem wire_Seal.calls (k : Nat) (A0 : Option Addr) (c0 : Nat) (l0 : List Int) (r1 : List Int) (r2 : Int) (w : World) (hr0 : Kd.C (Kd.int .u8) w A0 l0.length l0) (hc0 : l0.length ≤ c0) (h : wire_Seal.f k l0 = some (r1, r2)) :
    Calls Try.prog 61 #[.slice A0 l0.length c0] w fun e w' => ∃ v0_ : Value, e = .returned (.tuple #[v0_, .int .i64 r2]) ∧ Kd.R (Kd.int .u8) 5 w' w.heap.size (fun _ => True) v0_ r1 ∧ Below w.heap.size w w' := by
  have HR0 := Aside0.mk hr0
  have HC0 := Aside0.mk hc0
  clear hr0 hc0
  have HB := Aside0.mk (Below.refl w.heap.size w)
  have H : (if (l0.length : Int) > 8192 then (some (([] : List Int), 4)) else ((wire_PutBytes.f ([] : List Int) l0).bind fun t127 => ((wire_Sum.f k t127).bind fun t130 => ((wire_four.f t130).bind fun t131 => (if t127.length + t131.length < 140737488355328 then (some ((t127 ++ t131), 0)) else (none)))))) = some (r1, r2) := h
  clear h
  by_cases c2 : (l0.length : Int) > 8192
  · rw [if_pos c2] at H
    have c2b0 : decide (8192 < (l0.length : Int)) = true := decide_eq_true c2
    have c2b1 : decide (8192 < l0.length) = true := decide_eq_true (by omega)
    clear c2
    simp only [Option.some.injEq, Prod.mk.injEq] at H
    obtain ⟨rfl, rfl⟩ := H
    go_enter Try.func61, Try.ntmps61
    go_wp2
    go_ret2
    exact ⟨_, by first | rfl | (simp [errW_none, errW_some] <;> rfl) | (simp [*, errW_none, errW_some] <;> rfl), by first | exact Kd.R_nil _ _ _ _ _ | exact Kd.N_nil _ _ _ _ _ | exact Kd.V_nil _ _ _ _ _ | exact Kd.Q_nil _ _ _ _ _ | exact Kd.S_nil _ _ _ _ _, by repeat (first | (with_reducible first | exact HB.out | apply below_alloc | apply pw_below_drewN | apply below_drew1) | exact HB.out)⟩
  · rw [if_neg c2] at H
    have c2b0 : decide (8192 < (l0.length : Int)) = false := decide_eq_false c2
    have c2b1 : decide (8192 < l0.length) = false := decide_eq_false (by omega)
    clear c2
    replace H := Option.bind_eq_some_iff.mp H
    obtain ⟨t127, A30, H⟩ := H
    replace H : ((wire_Sum.f k t127).bind fun t130 => ((wire_four.f t130).bind fun t131 => (if t127.length + t131.length < 140737488355328 then (some ((t127 ++ t131), 0)) else (none)))) = some (r1, r2) := H
    have A3 := Aside0.mk A30
    clear A30
    replace H := Option.bind_eq_some_iff.mp H
    obtain ⟨t130, A40, H⟩ := H
    replace H : ((wire_four.f t130).bind fun t131 => (if t127.length + t131.length < 140737488355328 then (some ((t127 ++ t131), 0)) else (none))) = some (r1, r2) := H
    have A4 := Aside0.mk A40
    clear A40
    replace H := Option.bind_eq_some_iff.mp H
    obtain ⟨t131, A50, H⟩ := H
    replace H : (if t127.length + t131.length < 140737488355328 then (some ((t127 ++ t131), 0)) else (none)) = some (r1, r2) := H
    have A5 := Aside0.mk A50
    clear A50
    by_cases c6 : t127.length + t131.length < 140737488355328
    · rw [if_pos c6] at H
      have LMc6 := Aside0.mk c6
      clear c6
      obtain ⟨y134, hy134⟩ : ∃ y_ : List Int, y_ = (t127 ++ t131) := ⟨_, rfl⟩
      replace H : (some (y134, 0)) = some (r1, r2) := by first | (rw [hy134]; with_reducible exact H) | (have H2_ := (Option.bind_some _ _).symm.trans H; rw [hy134]; with_reducible exact H2_) | (have H2_ := (Option.bind_some _ _).symm.trans H; with_reducible exact H2_) | with_reducible exact H | (rw [hy134]; exact H) | exact H
      have Ny134 := Aside0.mk hy134
      clear hy134
      simp only [Option.some.injEq, Prod.mk.injEq] at H
      obtain ⟨rfl, rfl⟩ := H
      go_enter Try.func61, Try.ntmps61
      go_wp2_with (first | ((with_reducible refine gate_callee (f := 74) rfl ?_); refine goesL_ (some 9) rfl rfl Try.func74 (by kernel_rfl) rfl #[.slice none 0 0, .slice A0 l0.length c0] rfl (by (try simp only [List.map_toArray, List.map_cons, List.map_nil]); first | done | rfl | (simp only [List.length_drop, List.length_take]; rfl)) ?_; (refine (wire_PutBytes.calls _ _ ([] : List Int) _ _ l0 t127 _ ?side1 ?side2 ?side3 ?side4 A3.out).mono ?_); (case side1 => exact Kd.C_nil _ _); (case side2 => exact Nat.le_refl _); (case side3 => repeat (first | exact HR0.out | (with_reducible refine Kd.C_alloc ?_ _) | (with_reducible refine Kd.C_drewN ?_ _) | (with_reducible refine Kd.C_drew ?_))); (case side4 => exact HC0.out); rintro e w7 ⟨v128, rfl, ho0, hb⟩; refine ⟨_, rfl, ?_⟩; have n0_ := Aside0.mk (Kd.R_lower ho0 (below_size (by repeat (first | (with_reducible first | exact HB.out | apply below_alloc | apply pw_below_drewN | apply below_drew1) | exact HB.out)))); have n1_ := Aside0.mk (below_step (by repeat (first | (with_reducible first | exact HB.out | apply below_alloc | apply pw_below_drewN | apply below_drew1) | exact HB.out)) hb); clear HB; have HO129 := n0_; have HB := n1_; clear n0_ n1_; (try clear hb); (try clear hb2); (try clear hk); (try clear hi); (try clear ho0); obtain ⟨Ao8, co8, eo8⟩ := Kd.R_slice HO129.out; subst eo8) | ((with_reducible refine gate_callee (f := 76) rfl ?_); refine goesL_ (some 12) rfl rfl Try.func76 (by kernel_rfl) rfl #[.slice Ao8 t127.length co8] rfl (by (try simp only [List.map_toArray, List.map_cons, List.map_nil]); first | done | rfl | (simp only [List.length_drop, List.length_take]; rfl)) ?_; (with_reducible refine (wire_Sum.calls k _ _ t127 t130 _ ?side1 ?side2 A4.out).mono ?_); (case side1 => repeat (first | exact (Kd.R_reads' HO129.out).2.2 | (with_reducible refine Kd.C_alloc ?_ _) | (with_reducible refine Kd.C_drewN ?_ _) | (with_reducible refine Kd.C_drew ?_))); (case side2 => exact (Kd.R_reads' HO129.out).2.1); rintro e w' ⟨rfl, ⟨nd, rfl⟩⟩; refine ⟨_, rfl, ?_⟩) | ((with_reducible refine gate_callee (f := 75) rfl ?_); refine goesL_ (some 13) rfl rfl Try.func75 (by kernel_rfl) rfl #[.int .u32 t130] rfl (by (try simp only [List.map_toArray, List.map_cons, List.map_nil]); first | done | rfl | (simp only [List.length_drop, List.length_take]; rfl)) ?_; (with_reducible refine (wire_four.calls t130 t131 _ A5.out).mono ?_); rintro e w9 ⟨v132, rfl, ho0, hb⟩; refine ⟨_, rfl, ?_⟩; have n0_ := Aside0.mk (Kd.R_elder' (by (with_reducible repeat (first | apply Kd.R_alloc | apply Kd.R_drewN | apply Kd.R_drew)); exact HO129.out) (Kd.R_base ho0) hb); have n1_ := Aside0.mk (Kd.R_lower (Kd.R_new' ho0 (Kd.R_lt (by (with_reducible repeat (first | apply Kd.R_alloc | apply Kd.R_drewN | apply Kd.R_drew)); exact HO129.out))) (below_size (by repeat (first | (with_reducible first | exact HB.out | apply below_alloc | apply pw_below_drewN | apply below_drew1) | exact HB.out)))); have n2_ := Aside0.mk (below_step (by repeat (first | (with_reducible first | exact HB.out | apply below_alloc | apply pw_below_drewN | apply below_drew1) | exact HB.out)) hb); clear HO129; clear HB; have HO129 := n0_; have HO133 := n1_; have HB := n2_; clear n0_ n1_ n2_; (try clear hb); (try clear hb2); (try clear hk); (try clear hi); (try clear ho0); obtain ⟨Ao11, co11, eo11⟩ := Kd.R_slice HO133.out; subst eo11) | ((with_reducible refine gate_builtin (b := .append) (xs := #[.tmp 10, .tmp 13]) rfl ?_); at_builtin; refine Kd.R_append_rows (Kd.int .u8) (w0 := w) w.heap.size rfl (.tmp 10) (.tmp 13) 32 5 (.int .u8 0) 1 rfl Try.underlying32 info5 rfl (by decide) (by omega) (.slice Ao8 t127.length co8) t127 t131 _ _ _ (fun k_ => some k_ ≠ (.slice Ao11 t131.length co11 : Value).ownBlock) (fun _ => False) rfl rfl ?aO ?aR (fun _ _ h => h) (fun _ h => h.elim) ?aF ?aB ?aS ?aL ?_; (case aR => repeat (first | exact (Kd.R_reads' HO133.out).2.2 | (with_reducible refine Kd.C_alloc ?_ _) | (with_reducible refine Kd.C_drewN ?_ _) | (with_reducible refine Kd.C_drew ?_))); (case aB => exact (by repeat (first | (with_reducible first | exact HB.out | apply below_alloc | apply pw_below_drewN | apply below_drew1) | exact HB.out))); (case aF => exact (fun k_ hk => Kd.fresh' (Kd.R_lt (by (with_reducible repeat (first | apply Kd.R_alloc | apply Kd.R_drewN | apply Kd.R_drew)); exact HO133.out)) k_ hk)); (case aO => exact (by (with_reducible repeat (first | apply Kd.R_alloc | apply Kd.R_drewN | apply Kd.R_drew)); exact Kd.R_mono HO129.out (fun _ hk => hk.2))); (case aS => exact (below_size (by repeat (first | (with_reducible first | exact HB.out | apply below_alloc | apply pw_below_drewN | apply below_drew1) | exact HB.out)))); (case aL => have := LMc6.out; omega); intro v135 w10 ho hb hg hat; rw [← Ny134.out] at ho; have n0_ := Aside0.mk (Kd.R_after (ok := (fun _ => True)) (by (with_reducible repeat (first | apply Kd.R_alloc | apply Kd.R_drewN | apply Kd.R_drew)); exact HO133.out) hg hat); have n1_ := Aside0.mk (hb); have n2_ := Aside0.mk (ho); clear HO133; clear HB; clear HO129; have HO133 := n0_; have HB := n1_; have HO136 := n2_; clear n0_ n1_ n2_; clear ho hb hg hat))
      go_ret2
      exact ⟨_, by first | rfl | (simp [errW_none, errW_some] <;> rfl) | (simp [*, errW_none, errW_some] <;> rfl), by (with_reducible repeat (first | apply Kd.R_alloc | apply Kd.R_drewN | apply Kd.R_drew)); exact Kd.R_mono HO136.out (fun _ hk => trivial), by repeat (first | (with_reducible first | exact HB.out | apply below_alloc | apply pw_below_drewN | apply below_drew1) | exact HB.out)⟩
    · rw [if_neg c6] at H
      exact absurd H (by simp)
def tape_head.f (k : Nat) (a0 : Int) (a1 : Int) (l2 : List Int) : Option (List Int × Int) := (wire_Put.f ([] : List Int) (([IntKind.u64.wrap (a0), IntKind.u64.wrap (a1)] : List Int))).bind fun t140 => ((wire_PutBytes.f t140 l2).bind fun t143 => ((wire_Seal.f k t143).bind fun bt146 => (some (bt146.1, bt146.2))))
set_option maxHeartbeats 8000000 in
set_option maxRecDepth 100000 in
theorem tape_head.calls (k : Nat) (a0 : Int) (a1 : Int) (A2 : Option Addr) (c2 : Nat) (l2 : List Int) (r1 : List Int) (r2 : Int) (w : World) (hr2 : Kd.C (Kd.int .u8) w A2 l2.length l2) (hc2 : l2.length ≤ c2) (h : tape_head.f k a0 a1 l2 = some (r1, r2)) :
    Calls Try.prog 62 #[.int .i64 a0, .int .i64 a1, .slice A2 l2.length c2] w fun e w' => ∃ v0_ : Value, e = .returned (.tuple #[v0_, .int .i64 r2]) ∧ Kd.R (Kd.int .u8) 5 w' w.heap.size (fun _ => True) v0_ r1 ∧ Below w.heap.size w w' := by
  have HR2 := Aside0.mk hr2
  have HC2 := Aside0.mk hc2
  clear hr2 hc2
  have HB := Aside0.mk (Below.refl w.heap.size w)
  have H : ((wire_Put.f ([] : List Int) (([IntKind.u64.wrap (a0), IntKind.u64.wrap (a1)] : List Int))).bind fun t140 => ((wire_PutBytes.f t140 l2).bind fun t143 => ((wire_Seal.f k t143).bind fun bt146 => (some (bt146.1, bt146.2))))) = some (r1, r2) := h
  clear h
  obtain ⟨y137, hy137⟩ : ∃ y_ : List Int, y_ = (([IntKind.u64.wrap (a0), IntKind.u64.wrap (a1)] : List Int)) := ⟨_, rfl⟩
  replace H : ((wire_Put.f ([] : List Int) y137).bind fun t140 => ((wire_PutBytes.f t140 l2).bind fun t143 => ((wire_Seal.f k t143).bind fun bt146 => (some (bt146.1, bt146.2))))) = some (r1, r2) := by first | (rw [hy137]; with_reducible exact H) | (have H2_ := (Option.bind_some _ _).symm.trans H; rw [hy137]; with_reducible exact H2_) | (have H2_ := (Option.bind_some _ _).symm.trans H; with_reducible exact H2_) | with_reducible exact H | (rw [hy137]; exact H) | exact H
  have Ny137 := Aside0.mk hy137
  clear hy137
  replace H := Option.bind_eq_some_iff.mp H
  obtain ⟨t140, A40, H⟩ := H
  replace H : ((wire_PutBytes.f t140 l2).bind fun t143 => ((wire_Seal.f k t143).bind fun bt146 => (some (bt146.1, bt146.2)))) = some (r1, r2) := H
  have A4 := Aside0.mk A40
  clear A40
  replace H := Option.bind_eq_some_iff.mp H
  obtain ⟨t143, A50, H⟩ := H
  replace H : ((wire_Seal.f k t143).bind fun bt146 => (some (bt146.1, bt146.2))) = some (r1, r2) := H
  have A5 := Aside0.mk A50
  clear A50
  replace H := Option.bind_eq_some_iff.mp H
  obtain ⟨⟨t146, t147⟩, A60, H⟩ := H
  replace H : (some (t146, t147)) = some (r1, r2) := H
  have A6 := Aside0.mk A60
  clear A60
  simp only [Option.some.injEq, Prod.mk.injEq] at H
  obtain ⟨rfl, rfl⟩ := H
  go_enter Try.func62, Try.ntmps62
  go_wp2_with (first | ((with_reducible refine gate_dst (N := 12) rfl ?_); refine Kd.R_lit (Kd.int .u64) _ 130 ?hg (N := 12) ?hd (xs := ([IntKind.u64.wrap (a0), IntKind.u64.wrap (a1)] : List Int)) (inner := [.int .u64 (IntKind.u64.wrap (a0)), .int .u64 (IntKind.u64.wrap (a1))]) (ok := fun _ => True) (okp := fun _ => True) ?hr ?hp (fun _ hk => hk) trivial (Below.refl _ _) (Nat.le_refl _) (by simp) ?_; (case hd => rfl); (case hg => rfl); (case hr => first | (go_simp; done) | (go_simp; rfl)); (case hp => exact (Reps.one (show Kd.M (Kd.int .u64) _ _ _ (IntKind.u64.wrap (a0)) [.int .u64 (IntKind.u64.wrap (a0))] from rfl) (Reps.one (show Kd.M (Kd.int .u64) _ _ _ (IntKind.u64.wrap (a1)) [.int .u64 (IntKind.u64.wrap (a1))] from rfl) (Reps.none _ _)))); intro v138 w7 ho8 hb hg_ hnew_; clear hg_ hnew_; (first | rw [← Ny137.out] at ho8 | (simp only [Int.reduceToNat] at ho8; rw [← Ny137.out] at ho8)); have n0_ := Aside0.mk (Kd.R_lower ho8 (below_size (by repeat (first | (with_reducible first | exact HB.out | apply below_alloc | apply pw_below_drewN | apply below_drew1) | exact HB.out)))); have n1_ := Aside0.mk (below_step (by repeat (first | (with_reducible first | exact HB.out | apply below_alloc | apply pw_below_drewN | apply below_drew1) | exact HB.out)) hb); clear HB; have HO139 := n0_; have HB := n1_; clear n0_ n1_; clear hb ho8; obtain ⟨Ao9, co9, eo9⟩ := Kd.R_slice HO139.out; subst eo9) | ((with_reducible refine gate_callee (f := 77) rfl ?_); refine goesL_ (some 13) rfl rfl Try.func77 (by kernel_rfl) rfl #[.slice none 0 0, .slice Ao9 y137.length co9] rfl (by (try simp only [List.map_toArray, List.map_cons, List.map_nil]); first | done | rfl | (simp only [List.length_drop, List.length_take]; rfl)) ?_; (refine (wire_Put.calls _ _ ([] : List Int) _ _ y137 t140 _ ?side1 ?side2 ?side3 ?side4 A4.out).mono ?_); (case side1 => exact Kd.C_nil _ _); (case side2 => exact Nat.le_refl _); (case side3 => repeat (first | exact (Kd.R_reads' HO139.out).2.2 | (with_reducible refine Kd.C_alloc ?_ _) | (with_reducible refine Kd.C_drewN ?_ _) | (with_reducible refine Kd.C_drew ?_))); (case side4 => exact (Kd.R_reads' HO139.out).2.1); rintro e w10 ⟨v141, rfl, ho0, hb⟩; refine ⟨_, rfl, ?_⟩; have n0_ := Aside0.mk (Kd.R_below (by (with_reducible repeat (first | apply Kd.R_alloc | apply Kd.R_drewN | apply Kd.R_drew)); exact HO139.out) hb); have n1_ := Aside0.mk (Kd.R_lower ho0 (below_size (by repeat (first | (with_reducible first | exact HB.out | apply below_alloc | apply pw_below_drewN | apply below_drew1) | exact HB.out)))); have n2_ := Aside0.mk (below_step (by repeat (first | (with_reducible first | exact HB.out | apply below_alloc | apply pw_below_drewN | apply below_drew1) | exact HB.out)) hb); clear HO139; clear HB; have HO139 := n0_; have HO142 := n1_; have HB := n2_; clear n0_ n1_ n2_; (try clear hb); (try clear hb2); (try clear hk); (try clear hi); (try clear ho0); obtain ⟨Ao11, co11, eo11⟩ := Kd.R_slice HO142.out; subst eo11) | ((with_reducible refine gate_callee (f := 74) rfl ?_); refine goesL_ (some 15) rfl rfl Try.func74 (by kernel_rfl) rfl #[.slice Ao11 t140.length co11, .slice A2 l2.length c2] rfl (by (try simp only [List.map_toArray, List.map_cons, List.map_nil]); first | done | rfl | (simp only [List.length_drop, List.length_take]; rfl)) ?_; (with_reducible refine (wire_PutBytes.calls _ _ t140 _ _ l2 t143 _ ?side1 ?side2 ?side3 ?side4 A5.out).mono ?_); (case side1 => repeat (first | exact (Kd.R_reads' HO142.out).2.2 | (with_reducible refine Kd.C_alloc ?_ _) | (with_reducible refine Kd.C_drewN ?_ _) | (with_reducible refine Kd.C_drew ?_))); (case side2 => exact (Kd.R_reads' HO142.out).2.1); (case side3 => repeat (first | exact (Kd.C_below HR2.out HB.out) | (with_reducible refine Kd.C_alloc ?_ _) | (with_reducible refine Kd.C_drewN ?_ _) | (with_reducible refine Kd.C_drew ?_))); (case side4 => exact HC2.out); rintro e w12 ⟨v144, rfl, ho0, hb⟩; refine ⟨_, rfl, ?_⟩; have n0_ := Aside0.mk (Kd.R_below (by (with_reducible repeat (first | apply Kd.R_alloc | apply Kd.R_drewN | apply Kd.R_drew)); exact HO139.out) hb); have n1_ := Aside0.mk (Kd.R_elder' (by (with_reducible repeat (first | apply Kd.R_alloc | apply Kd.R_drewN | apply Kd.R_drew)); exact HO142.out) (Kd.R_base ho0) hb); have n2_ := Aside0.mk (Kd.R_lower (Kd.R_new' ho0 (Kd.R_lt (by (with_reducible repeat (first | apply Kd.R_alloc | apply Kd.R_drewN | apply Kd.R_drew)); exact HO142.out))) (below_size (by repeat (first | (with_reducible first | exact HB.out | apply below_alloc | apply pw_below_drewN | apply below_drew1) | exact HB.out)))); have n3_ := Aside0.mk (below_step (by repeat (first | (with_reducible first | exact HB.out | apply below_alloc | apply pw_below_drewN | apply below_drew1) | exact HB.out)) hb); clear HO139; clear HO142; clear HB; have HO139 := n0_; have HO142 := n1_; have HO145 := n2_; have HB := n3_; clear n0_ n1_ n2_ n3_; (try clear hb); (try clear hb2); (try clear hk); (try clear hi); (try clear ho0); obtain ⟨Ao13, co13, eo13⟩ := Kd.R_slice HO145.out; subst eo13) | ((with_reducible refine gate_callee (f := 61) rfl ?_); refine goesL_ (some 16) rfl rfl Try.func61 (by kernel_rfl) rfl #[.slice Ao13 t143.length co13] rfl (by (try simp only [List.map_toArray, List.map_cons, List.map_nil]); first | done | rfl | (simp only [List.length_drop, List.length_take]; rfl)) ?_; (with_reducible refine (wire_Seal.calls k _ _ t143 t146 t147 _ ?side1 ?side2 A6.out).mono ?_); (case side1 => repeat (first | exact (Kd.R_reads' HO145.out).2.2 | (with_reducible refine Kd.C_alloc ?_ _) | (with_reducible refine Kd.C_drewN ?_ _) | (with_reducible refine Kd.C_drew ?_))); (case side2 => exact (Kd.R_reads' HO145.out).2.1); rintro e w14 ⟨v148, rfl, ho0, hb⟩; refine ⟨_, rfl, ?_⟩; have n0_ := Aside0.mk (Kd.R_below (by (with_reducible repeat (first | apply Kd.R_alloc | apply Kd.R_drewN | apply Kd.R_drew)); exact HO139.out) hb); have n1_ := Aside0.mk (Kd.R_elder' (by (with_reducible repeat (first | apply Kd.R_alloc | apply Kd.R_drewN | apply Kd.R_drew)); exact HO142.out) (Kd.R_base ho0) hb); have n2_ := Aside0.mk (Kd.R_elder' (by (with_reducible repeat (first | apply Kd.R_alloc | apply Kd.R_drewN | apply Kd.R_drew)); exact HO145.out) (Kd.R_base ho0) hb); have n3_ := Aside0.mk (Kd.R_lower (Kd.R_new' (Kd.R_new' ho0 (Kd.R_lt (by (with_reducible repeat (first | apply Kd.R_alloc | apply Kd.R_drewN | apply Kd.R_drew)); exact HO142.out))) (Kd.R_lt (by (with_reducible repeat (first | apply Kd.R_alloc | apply Kd.R_drewN | apply Kd.R_drew)); exact HO145.out))) (below_size (by repeat (first | (with_reducible first | exact HB.out | apply below_alloc | apply pw_below_drewN | apply below_drew1) | exact HB.out)))); have n4_ := Aside0.mk (below_step (by repeat (first | (with_reducible first | exact HB.out | apply below_alloc | apply pw_below_drewN | apply below_drew1) | exact HB.out)) hb); clear HO139; clear HO142; clear HO145; clear HB; have HO139 := n0_; have HO142 := n1_; have HO145 := n2_; have HO149 := n3_; have HB := n4_; clear n0_ n1_ n2_ n3_ n4_; (try clear hb); (try clear hb2); (try clear hk); (try clear hi); (try clear ho0)))
  go_ret2
  exact ⟨_, by first | rfl | (simp [errW_none, errW_some] <;> rfl) | (simp [*, errW_none, errW_some] <;> rfl), by (with_reducible repeat (first | apply Kd.R_alloc | apply Kd.R_drewN | apply Kd.R_drew)); exact Kd.R_mono HO149.out (fun _ hk => trivial), by repeat (first | (with_reducible first | exact HB.out | apply below_alloc | apply pw_below_drewN | apply below_drew1) | exact HB.out)⟩
def slices_Equal_string_string.l0 : Nat → List ByteArray → List ByteArray → Int → Int → Option (Bool)
  | 0, _, _, _, _ => none
  | k + 1, x0, x1, x12, x13 => if x13 < x12 then (if 0 ≤ x13 then (if x13 < (x0.length : Int) then (if x13 < (x1.length : Int) then (if (rdOf ByteArray.empty x0 x13).toList = (rdOf ByteArray.empty x1 x13).toList then (slices_Equal_string_string.l0 k x0 x1 x12 (wrap64 (x13 + 1))) else (some false)) else (none)) else (none)) else (none)) else (some true)
def slices_Equal_string_string.f (k : Nat) (l0 : List ByteArray) (l1 : List ByteArray) : Option (Bool) := if (l0.length : Int) = (l1.length : Int) then (slices_Equal_string_string.l0 k l0 l1 (l0.length : Int) 0) else (some false)
set_option maxHeartbeats 8000000 in
set_option maxRecDepth 100000 in
theorem slices_Equal_string_string.calls (k : Nat) (A0 : Option Addr) (c0 : Nat) (l0 : List ByteArray) (A1 : Option Addr) (c1 : Nat) (l1 : List ByteArray) (r : Bool) (w : World) (hr0 : Kd.C Kd.string w A0 l0.length l0) (hc0 : l0.length ≤ c0) (hr1 : Kd.C Kd.string w A1 l1.length l1) (hc1 : l1.length ≤ c1) (h : slices_Equal_string_string.f k l0 l1 = some r) :
    Calls Try.prog 39 #[.slice A0 l0.length c0, .slice A1 l1.length c1] w fun e w' => e = .returned (.bool r) ∧ Drawn0 w w' := by
  have HR0 := Aside0.mk hr0
  have HC0 := Aside0.mk hc0
  clear hr0 hc0
  have HR1 := Aside0.mk hr1
  have HC1 := Aside0.mk hc1
  clear hr1 hc1
  have H : (if (l0.length : Int) = (l1.length : Int) then (slices_Equal_string_string.l0 k l0 l1 (l0.length : Int) 0) else (some false)) = some r := h
  clear h
  by_cases c3 : (l0.length : Int) = (l1.length : Int)
  · rw [if_pos c3] at H
    have c3b0 : ((l0.length : Int) == (l1.length : Int)) = true := beq_iff_eq.mpr c3
    have c3b1 : ((l0.length : Int) != (l1.length : Int)) = false := bne_eq_false_iff_eq.mpr c3
    have c3b2 : (l0.length == l1.length) = true := by first | simpa using c3 | (simp at c3 ⊢; omega)
    clear c3
    have H' := Aside0.mk H
    clear H
    go_enter Try.func39, Try.ntmps39
    go_wp2
    repeat (go_quiet (fail); try go_wp2)
    go_loopg [13] k (fun kq v13 w' => ∃ (x13_1 : Int), v13 = .int .i64 x13_1 ∧ Aside0 (slices_Equal_string_string.l0 kq l0 l1 (l0.length : Int) x13_1 = some r) ∧ Aside0 (kq ≤ k) ∧ Drawn0 w w')
    case atStart => exact ⟨(0), (by first | rfl | (simp; done) | (simp [*]; done)), H', ⟨Nat.le_refl _⟩, by repeat (first | exact Drawn0.refl _ | apply Drawn0.step)⟩
    case round =>
      clear H'
      try clear c1
      try clear p2
      try clear c3
      try clear c3b0
      try clear c3b1
      try clear c3b2
      obtain ⟨x13_1, rfl, HA, HK1, ⟨m1, rfl⟩⟩ := hrel
      cases gk with
      | zero => exact absurd HA.out (by simp [slices_Equal_string_string.l0])
      | succ k1 =>
        have H := HA.out
        clear HA
        simp only [slices_Equal_string_string.l0] at H
        by_cases c4 : x13_1 < (l0.length : Int)
        · rw [if_pos c4] at H
          have c4b0 : decide (x13_1 < (l0.length : Int)) = true := decide_eq_true c4
          clear c4
          by_cases c5 : 0 ≤ x13_1
          · rw [if_pos c5] at H
            have c5b0 : decide (0 ≤ x13_1) = true := decide_eq_true c5
            clear c5
            by_cases c6 : x13_1 < (l0.length : Int)
            · rw [if_pos c6] at H
              have c6b0 : decide (x13_1 < (l0.length : Int)) = true := decide_eq_true c6
              clear c6
              by_cases c7 : x13_1 < (l1.length : Int)
              · rw [if_pos c7] at H
                have c7b0 : decide (x13_1 < (l1.length : Int)) = true := decide_eq_true c7
                clear c7
                by_cases c8 : (rdOf ByteArray.empty l0 x13_1).toList = (rdOf ByteArray.empty l1 x13_1).toList
                · rw [if_pos c8] at H
                  have c8b0 : ((rdOf ByteArray.empty l0 x13_1).toList == (rdOf ByteArray.empty l1 x13_1).toList) = true := beq_iff_eq.mpr c8
                  have c8b1 : ((rdOf ByteArray.empty l0 x13_1).toList != (rdOf ByteArray.empty l1 x13_1).toList) = false := bne_eq_false_iff_eq.mpr c8
                  clear c8
                  have H' := Aside0.mk H
                  clear H
                  have p165 : 0 ≤ (x13_1 : Int) := of_decide_eq_true (by first | (with_reducible assumption) | assumption)
                  have q165 : x13_1 < (l0.length : Int) := of_decide_eq_true (by first | (with_reducible assumption) | assumption)
                  obtain ⟨ad165, e165, hx165_0⟩ := Kd.at_string HR0.out x13_1 p165 q165
                  cases e165
                  replace p165 := eq_true p165
                  replace q165 := eq_true q165
                  have p166 : 0 ≤ (x13_1 : Int) := of_decide_eq_true (by first | (with_reducible assumption) | assumption)
                  have q166 : x13_1 < (l1.length : Int) := of_decide_eq_true (by first | (with_reducible assumption) | assumption)
                  obtain ⟨ad166, e166, hx166_0⟩ := Kd.at_string HR1.out x13_1 p166 q166
                  cases e166
                  replace p166 := eq_true p166
                  replace q166 := eq_true q166
                  go_wp2
                  repeat (go_quiet (fail); try go_wp2)
                  go_roundg k1
                  case measure => have := HK1.out; omega
                  case rel => exact ⟨(wrap64 (x13_1 + 1)), (by first | rfl | (simp; done) | (simp [*]; done)), H', ⟨by have := HK1.out; omega⟩, by repeat (first | exact Drawn0.refl _ | apply Drawn0.step)⟩
                · rw [if_neg c8] at H
                  have c8b0 : ((rdOf ByteArray.empty l0 x13_1).toList == (rdOf ByteArray.empty l1 x13_1).toList) = false := beq_eq_false_iff_ne.mpr c8
                  have c8b1 : ((rdOf ByteArray.empty l0 x13_1).toList != (rdOf ByteArray.empty l1 x13_1).toList) = true := bne_iff_ne.mpr c8
                  obtain rfl := Option.some.inj H
                  have p165 : 0 ≤ (x13_1 : Int) := of_decide_eq_true (by first | (with_reducible assumption) | assumption)
                  have q165 : x13_1 < (l0.length : Int) := of_decide_eq_true (by first | (with_reducible assumption) | assumption)
                  obtain ⟨ad165, e165, hx165_0⟩ := Kd.at_string HR0.out x13_1 p165 q165
                  cases e165
                  replace p165 := eq_true p165
                  replace q165 := eq_true q165
                  have p166 : 0 ≤ (x13_1 : Int) := of_decide_eq_true (by first | (with_reducible assumption) | assumption)
                  have q166 : x13_1 < (l1.length : Int) := of_decide_eq_true (by first | (with_reducible assumption) | assumption)
                  obtain ⟨ad166, e166, hx166_0⟩ := Kd.at_string HR1.out x13_1 p166 q166
                  cases e166
                  replace p166 := eq_true p166
                  replace q166 := eq_true q166
                  go_wp2
                  repeat (go_quiet (fail); try go_wp2)
                  go_ret
                  exact ⟨by first | rfl | (simp; done) | (simp [*]; done), by repeat (first | exact Drawn0.refl _ | apply Drawn0.step)⟩
              · rw [if_neg c7] at H
                exact absurd H (by simp)
            · rw [if_neg c6] at H
              exact absurd H (by simp)
          · rw [if_neg c5] at H
            exact absurd H (by simp)
        · rw [if_neg c4] at H
          have c4b0 : decide (x13_1 < (l0.length : Int)) = false := decide_eq_false c4
          clear c4
          obtain rfl := Option.some.inj H
          go_wp2
          repeat (go_quiet (fail); try go_wp2)
          go_ret
          exact ⟨by first | rfl | (simp; done) | (simp [*]; done), by repeat (first | exact Drawn0.refl _ | apply Drawn0.step)⟩
  · rw [if_neg c3] at H
    have c3b0 : ((l0.length : Int) == (l1.length : Int)) = false := beq_eq_false_iff_ne.mpr c3
    have c3b1 : ((l0.length : Int) != (l1.length : Int)) = true := bne_iff_ne.mpr c3
    have c3b2 : (l0.length == l1.length) = false := by first | simpa using c3 | (simp at c3 ⊢; omega)
    obtain rfl := Option.some.inj H
    go_enter Try.func39, Try.ntmps39
    go_wp2
    repeat (go_quiet (fail); try go_wp2)
    go_ret
    exact ⟨by first | rfl | (simp; done) | (simp [*]; done), by repeat (first | exact Drawn0.refl _ | apply Drawn0.step)⟩
end Go.Proofs.Ytehjbhnlbjbhfaa.PTapePlays
-- PTapePlaysx2
namespace Go.Proofs.Ytehjbhnlbjbhfaa.PTapePlays
open Go.RowKit Go.Proofs.YtehjbhnlbjbhfaaW.PrintWords Go.Proofs.YtehjbhnlbjbhfaaW.PrintLast Go.Proofs.YtehjbhnlbjbhfaaW.PrintMore
attribute [local go_sem] max2_int min2_int max_two min_two
set_option linter.unusedVariables false
set_option linter.unusedSimpArgs false
end Go.Proofs.Ytehjbhnlbjbhfaa.PTapePlays
-- PTapePlaysx3
namespace Go.Proofs.Ytehjbhnlbjbhfaa.PTapePlays
open Go.RowKit Go.Proofs.YtehjbhnlbjbhfaaW.PrintWords Go.Proofs.YtehjbhnlbjbhfaaW.PrintLast Go.Proofs.YtehjbhnlbjbhfaaW.PrintMore
attribute [local go_sem] max2_int min2_int max_two min_two
set_option linter.unusedVariables false
set_option linter.unusedSimpArgs false
end Go.Proofs.Ytehjbhnlbjbhfaa.PTapePlays
-- PTapePlaysx4
namespace Go.Proofs.Ytehjbhnlbjbhfaa.PTapePlays
open Go.RowKit Go.Proofs.YtehjbhnlbjbhfaaW.PrintWords Go.Proofs.YtehjbhnlbjbhfaaW.PrintLast Go.Proofs.YtehjbhnlbjbhfaaW.PrintMore
attribute [local go_sem] max2_int min2_int max_two min_two
set_option linter.unusedVariables false
set_option linter.unusedSimpArgs false
mutual
def towlinelaw06_short.l0 : Nat → Int → Int → List (List (S79)) → Int → Int → Option (Bool)
  | 0, _, _, _, _, _ => none
  | k + 1, x3, x4, x9, x10, x11 => if x11 < x10 then (if 0 ≤ x11 then (if x11 < (x9.length : Int) then (towlinelaw06_short.l1 k x3 x4 (rd_L8 x9 x11) 0 x9 x10 x11) else (none)) else (none)) else (if x4 ≤ 60 then (some (decide (x3 ≤ 16384))) else (some false))
def towlinelaw06_short.l1 : Nat → Int → Int → List (S79) → Int → List (List (S79)) → Int → Int → Option (Bool)
  | 0, _, _, _, _, _, _, _ => none
  | k + 1, x3, x4, x6, x7, x9, x10, x11 => if x7 < (x6.length : Int) then (if x4 ≤ 60 then (towlinelaw06_short.j2 k x3 x4 x6 x7 x9 x10 x11 (decide (x3 ≤ 16384))) else (towlinelaw06_short.j2 k x3 x4 x6 x7 x9 x10 x11 false)) else (towlinelaw06_short.j2 k x3 x4 x6 x7 x9 x10 x11 false)
def towlinelaw06_short.j2 : Nat → Int → Int → List (S79) → Int → List (List (S79)) → Int → Int → Bool → Option (Bool)
  | 0, _, _, _, _, _, _, _, _ => none
  | k + 1, x3, x4, x6, x7, x9, x10, x11, x26 => if x26 = true then (if 0 ≤ x7 then (if x7 < (x6.length : Int) then (towlinelaw06_short.l2 k (wrap64 (x3 + ((mn (((rd_T79 x6 x7).f2).length : Int) 16385) + (mn (((rd_T79 x6 x7).f4).length : Int) 16385)))) (wrap64 (x4 + 1)) x6 x7 0 x9 x10 x11) else (none)) else (none)) else (towlinelaw06_short.l0 k x3 x4 x9 x10 (wrap64 (x11 + 1)))
def towlinelaw06_short.l2 : Nat → Int → Int → List (S79) → Int → Int → List (List (S79)) → Int → Int → Option (Bool)
  | 0, _, _, _, _, _, _, _, _ => none
  | k + 1, x3, x4, x6, x7, x8, x9, x10, x11 => if 0 ≤ x7 then (if x7 < (x6.length : Int) then (if x8 < (((rd_T79 x6 x7).f3).length : Int) then (if x3 ≤ 16384 then (if 0 ≤ x8 then (towlinelaw06_short.l2 k (wrap64 (x3 + (4 + (mn ((rd_L1 ((rd_T79 x6 x7).f3) x8).length : Int) 16385)))) x4 x6 x7 (wrap64 (x8 + 1)) x9 x10 x11) else (none)) else (towlinelaw06_short.l1 k x3 x4 x6 (wrap64 (x7 + 1)) x9 x10 x11)) else (towlinelaw06_short.l1 k x3 x4 x6 (wrap64 (x7 + 1)) x9 x10 x11)) else (none)) else (none)
end
def towlinelaw06_short.f (k : Nat) (l0 : List (List (S79))) : Option (Bool) := towlinelaw06_short.l0 k 0 0 l0 (l0.length : Int) 0
set_option maxHeartbeats 8000000 in
set_option maxRecDepth 100000 in
theorem towlinelaw06_short.calls (k : Nat) (A0 : Option Addr) (c0 : Nat) (l0 : List (List (S79))) (r : Bool) (w : World) (hr0 : Kd.C (Kd.slice 79 k79) w A0 l0.length l0) (hc0 : l0.length ≤ c0) (h : towlinelaw06_short.f k l0 = some r) :
    Calls Try.prog 37 #[.slice A0 l0.length c0] w fun e w' => e = .returned (.bool r) ∧ Below w.heap.size w w' := by
  have HR0 := Aside0.mk hr0
  have HC0 := Aside0.mk hc0
  clear hr0 hc0
  have HB := Aside0.mk (Below.refl w.heap.size w)
  have H : (towlinelaw06_short.l0 k 0 0 l0 (l0.length : Int) 0) = some r := h
  clear h
  have H' := Aside0.mk H
  clear H
  go_enter Try.func37, Try.ntmps37
  go_wp2
  repeat (go_quiet (fail); try go_wp2)
  go_loopg [3, 4, 11] k (fun kq v3 v4 v11 w' => ∃ (x3_1 : Int) (x4_1 : Int) (x11_1 : Int), v3 = .int .i64 x3_1 ∧ v4 = .int .i64 x4_1 ∧ v11 = .int .i64 x11_1 ∧ Aside0 (towlinelaw06_short.l0 kq x3_1 x4_1 l0 (l0.length : Int) x11_1 = some r) ∧ Aside0 (kq ≤ k) ∧ Aside0 (Below w.heap.size w w'))
  case atStart => exact ⟨(0), (0), (0), (by first | rfl | (simp; done) | (simp [*]; done)), (by first | rfl | (simp; done) | (simp [*]; done)), (by first | rfl | (simp; done) | (simp [*]; done)), H', ⟨Nat.le_refl _⟩, ⟨by repeat (first | (with_reducible first | exact HB.out | apply below_alloc | apply pw_below_drewN | apply below_drew1) | exact HB.out)⟩⟩
  case round =>
    clear H'
    obtain ⟨x3_1, x4_1, x11_1, rfl, rfl, rfl, HA, HK1, HB⟩ := hrel
    cases gk with
    | zero => exact absurd HA.out (by simp [towlinelaw06_short.l0])
    | succ k1 =>
      have H := HA.out
      clear HA
      simp only [towlinelaw06_short.l0] at H
      by_cases c2 : x11_1 < (l0.length : Int)
      · rw [if_pos c2] at H
        have c2b0 : decide (x11_1 < (l0.length : Int)) = true := decide_eq_true c2
        clear c2
        by_cases c3 : 0 ≤ x11_1
        · rw [if_pos c3] at H
          have c3b0 : decide (0 ≤ x11_1) = true := decide_eq_true c3
          clear c3
          by_cases c4 : x11_1 < (l0.length : Int)
          · rw [if_pos c4] at H
            have c4b0 : decide (x11_1 < (l0.length : Int)) = true := decide_eq_true c4
            clear c4
            have H' := Aside0.mk H
            clear H
            have p221 : 0 ≤ (x11_1 : Int) := of_decide_eq_true (by first | (with_reducible assumption) | assumption)
            have q221 : x11_1 < (l0.length : Int) := of_decide_eq_true (by first | (with_reducible assumption) | assumption)
            obtain ⟨ad221, A221_0, c221_0, e221, hx221_0, hl221_0, hi221_0⟩ := at_L8 HR0.out x11_1 p221 q221
            cases e221
            replace hx221_0 := (HB.out.cell (World.block_lt_of_cell? w _ hx221_0)).trans hx221_0
            have HR221_0 := Aside0.mk hi221_0
            have HC221_0 := Aside0.mk hl221_0
            clear hi221_0 hl221_0
            replace p221 := eq_true p221
            replace q221 := eq_true q221
            go_wp2
            repeat (go_quiet (fail); try go_wp2)
            go_loopg [3, 4, 7] k1 (fun kq v3 v4 v7 w' => ∃ (x3_2 : Int) (x4_2 : Int) (x7_2 : Int), v3 = .int .i64 x3_2 ∧ v4 = .int .i64 x4_2 ∧ v7 = .int .i64 x7_2 ∧ Aside0 (towlinelaw06_short.l1 kq x3_2 x4_2 (rd_L8 l0 x11_1) x7_2 l0 (l0.length : Int) x11_1 = some r) ∧ Aside0 (kq ≤ k1) ∧ Aside0 (Below w.heap.size w w'))
            case atStart => exact ⟨(x3_1), (x4_1), (0), (by first | rfl | (simp; done) | (simp [*]; done)), (by first | rfl | (simp; done) | (simp [*]; done)), (by first | rfl | (simp; done) | (simp [*]; done)), H', ⟨Nat.le_refl _⟩, ⟨by repeat (first | (with_reducible first | exact HB.out | apply below_alloc | apply pw_below_drewN | apply below_drew1) | exact HB.out)⟩⟩
            case round =>
              clear H'
              try clear c2
              try clear c2b0
              try clear p2
              try clear q2
              try clear hx2
              try clear c3
              try clear c3b0
              try clear c4
              try clear c4b0
              try clear hx221_0
              try clear p221
              try clear q221
              obtain ⟨x3_2, x4_2, x7_2, rfl, rfl, rfl, HA, HK2, HB⟩ := hrel
              cases gk with
              | zero => exact absurd HA.out (by simp [towlinelaw06_short.l1])
              | succ k2 =>
                have H := HA.out
                clear HA
                simp only [towlinelaw06_short.l1] at H
                have HC5 := Aside0.mk H
                clear H
                go_upto_region 6 with (fail)
                repeat (go_quiet (fail); go_upto_region 6 with (fail))
                go_cut [26] (fun v26 wc => ∃ (kq : Nat) (x26_4 : Bool), v26 = .bool x26_4 ∧ Aside0 (towlinelaw06_short.j2 kq x3_2 x4_2 (rd_L8 l0 x11_1) x7_2 l0 (l0.length : Int) x11_1 x26_4 = some r) ∧ Aside0 (kq ≤ k2) ∧ Aside0 (Below w.heap.size w wc))
                case first =>
                  have H := HC5.out
                  clear HC5
                  by_cases c6 : x7_2 < ((rd_L8 l0 x11_1).length : Int)
                  · rw [if_pos c6] at H
                    have c6b0 : decide (x7_2 < ((rd_L8 l0 x11_1).length : Int)) = true := decide_eq_true c6
                    clear c6
                    (first | rw [c6b0] | (simp only [i64_w, i32_w]; rw [c6b0]) | skip)
                    by_cases c7 : x4_2 ≤ 60
                    · rw [if_pos c7] at H
                      have c7b0 : decide (x4_2 ≤ 60) = true := decide_eq_true c7
                      clear c7
                      have H' := Aside0.mk H
                      clear H
                      go_wp2
                      repeat (go_quiet (fail); try go_wp2)
                      go_meet
                      case rel => exact ⟨_, (decide (x3_2 ≤ 16384)), (by first | rfl | (simp; done) | (simp [*]; done)), H', ⟨by have := HK1.out; have := HK2.out; first | omega | exact Nat.le_refl _⟩, ⟨by repeat (first | (with_reducible first | exact HB.out | apply below_alloc | apply pw_below_drewN | apply below_drew1) | exact HB.out)⟩⟩
                    · rw [if_neg c7] at H
                      have c7b0 : decide (x4_2 ≤ 60) = false := decide_eq_false c7
                      clear c7
                      have H' := Aside0.mk H
                      clear H
                      go_wp2
                      repeat (go_quiet (fail); try go_wp2)
                      go_meet
                      case rel => exact ⟨_, (false), (by first | rfl | (simp; done) | (simp [*]; done)), H', ⟨by have := HK1.out; have := HK2.out; first | omega | exact Nat.le_refl _⟩, ⟨by repeat (first | (with_reducible first | exact HB.out | apply below_alloc | apply pw_below_drewN | apply below_drew1) | exact HB.out)⟩⟩
                  · rw [if_neg c6] at H
                    have c6b0 : decide (x7_2 < ((rd_L8 l0 x11_1).length : Int)) = false := decide_eq_false c6
                    clear c6
                    (first | rw [c6b0] | (simp only [i64_w, i32_w]; rw [c6b0]) | skip)
                    have H' := Aside0.mk H
                    clear H
                    go_wp2
                    repeat (go_quiet (fail); try go_wp2)
                    go_meet
                    case rel => exact ⟨_, (false), (by first | rfl | (simp; done) | (simp [*]; done)), H', ⟨by have := HK1.out; have := HK2.out; first | omega | exact Nat.le_refl _⟩, ⟨by repeat (first | (with_reducible first | exact HB.out | apply below_alloc | apply pw_below_drewN | apply below_drew1) | exact HB.out)⟩⟩
                case rest =>
                  clear HC5
                  try clear c2
                  try clear c2b0
                  try clear p2
                  try clear q2
                  try clear hx2
                  try clear c3
                  try clear c3b0
                  try clear c4
                  try clear c4b0
                  try clear c6
                  try clear c6b0
                  try clear c7
                  try clear c7b0
                  try clear hx221_0
                  try clear p2
                  try clear p221
                  try clear q2
                  try clear q221
                  obtain ⟨kq, x26_4, rfl, HA, HJ4, HB⟩ := hcut
                  cases kq with
                  | zero => exact absurd HA.out (by simp [towlinelaw06_short.j2])
                  | succ kj4 =>
                    have H := HA.out
                    clear HA
                    simp only [towlinelaw06_short.j2] at H
                    by_cases c8 : x26_4 = true
                    · subst c8
                      have H1 : (if 0 ≤ x7_2 then (if x7_2 < ((rd_L8 l0 x11_1).length : Int) then (towlinelaw06_short.l2 kj4 (wrap64 (x3_2 + ((mn (((rd_T79 (rd_L8 l0 x11_1) x7_2).f2).length : Int) 16385) + (mn (((rd_T79 (rd_L8 l0 x11_1) x7_2).f4).length : Int) 16385)))) (wrap64 (x4_2 + 1)) (rd_L8 l0 x11_1) x7_2 0 l0 (l0.length : Int) x11_1) else (none)) else (none)) = some r := by rw [if_pos rfl] at H; exact H
                      clear H
                      have H := H1
                      clear H1
                      by_cases c9 : 0 ≤ x7_2
                      · rw [if_pos c9] at H
                        have c9b0 : decide (0 ≤ x7_2) = true := decide_eq_true c9
                        clear c9
                        by_cases c10 : x7_2 < ((rd_L8 l0 x11_1).length : Int)
                        · rw [if_pos c10] at H
                          have c10b0 : decide (x7_2 < ((rd_L8 l0 x11_1).length : Int)) = true := decide_eq_true c10
                          clear c10
                          obtain ⟨ji11, hji11⟩ : ∃ j_ : Int, (mn (((rd_T79 (rd_L8 l0 x11_1) x7_2).f2).length : Int) 16385) = j_ := ⟨_, rfl⟩
                          replace H : (towlinelaw06_short.l2 kj4 (wrap64 (x3_2 + ((ji11) + (mn (((rd_T79 (rd_L8 l0 x11_1) x7_2).f4).length : Int) 16385)))) (wrap64 (x4_2 + 1)) (rd_L8 l0 x11_1) x7_2 0 l0 (l0.length : Int) x11_1) = some r := by first | (rw [hji11] at H; exact H) | (simp only [hji11] at H ⊢; exact H)
                          have hji11_ : (if 16385 < (((rd_T79 (rd_L8 l0 x11_1) x7_2).f2).length : Int) then 16385 else (((rd_T79 (rd_L8 l0 x11_1) x7_2).f2).length : Int)) = ji11 := hji11
                          obtain ⟨ji12, hji12⟩ : ∃ j_ : Int, (mn (((rd_T79 (rd_L8 l0 x11_1) x7_2).f4).length : Int) 16385) = j_ := ⟨_, rfl⟩
                          replace H : (towlinelaw06_short.l2 kj4 (wrap64 (x3_2 + ((ji11) + (ji12)))) (wrap64 (x4_2 + 1)) (rd_L8 l0 x11_1) x7_2 0 l0 (l0.length : Int) x11_1) = some r := by first | (rw [hji12] at H; exact H) | (simp only [hji12] at H ⊢; exact H)
                          have hji12_ : (if 16385 < (((rd_T79 (rd_L8 l0 x11_1) x7_2).f4).length : Int) then 16385 else (((rd_T79 (rd_L8 l0 x11_1) x7_2).f4).length : Int)) = ji12 := hji12
                          have H' := Aside0.mk H
                          clear H
                          have p222 : 0 ≤ (x7_2 : Int) := of_decide_eq_true (by first | (with_reducible assumption) | assumption)
                          have q222 : x7_2 < ((rd_L8 l0 x11_1).length : Int) := of_decide_eq_true (by first | (with_reducible assumption) | assumption)
                          obtain ⟨ad222, A222_2, c222_2, A222_3, c222_3, A222_4, c222_4, e222, hx222_0, hx222_1, hx222_2, hx222_3, hx222_4, hl222_2, hi222_2, hl222_3, hi222_3, hl222_4, hi222_4⟩ := at_T79 HR221_0.out x7_2 p222 q222
                          cases e222
                          replace hx222_0 := (HB.out.cell (World.block_lt_of_cell? w _ hx222_0)).trans hx222_0
                          replace hx222_1 := (HB.out.cell (World.block_lt_of_cell? w _ hx222_1)).trans hx222_1
                          replace hx222_2 := (HB.out.cell (World.block_lt_of_cell? w _ hx222_2)).trans hx222_2
                          replace hx222_3 := (HB.out.cell (World.block_lt_of_cell? w _ hx222_3)).trans hx222_3
                          replace hx222_4 := (HB.out.cell (World.block_lt_of_cell? w _ hx222_4)).trans hx222_4
                          have HR222_2 := Aside0.mk hi222_2
                          have HC222_2 := Aside0.mk hl222_2
                          clear hi222_2 hl222_2
                          have HR222_3 := Aside0.mk hi222_3
                          have HC222_3 := Aside0.mk hl222_3
                          clear hi222_3 hl222_3
                          have HR222_4 := Aside0.mk hi222_4
                          have HC222_4 := Aside0.mk hl222_4
                          clear hi222_4 hl222_4
                          replace p222 := eq_true p222
                          replace q222 := eq_true q222
                          have p223 : 0 ≤ (x7_2 : Int) := of_decide_eq_true (by first | (with_reducible assumption) | assumption)
                          have q223 : x7_2 < ((rd_L8 l0 x11_1).length : Int) := of_decide_eq_true (by first | (with_reducible assumption) | assumption)
                          obtain ⟨ad223, A223_2, c223_2, A223_3, c223_3, A223_4, c223_4, e223, hx223_0, hx223_1, hx223_2, hx223_3, hx223_4, hl223_2, hi223_2, hl223_3, hi223_3, hl223_4, hi223_4⟩ := at_T79 HR221_0.out x7_2 p223 q223
                          obtain rfl : ad222 = ad223 := (by injection e223)
                          replace hx223_0 := (HB.out.cell (World.block_lt_of_cell? w _ hx223_0)).trans hx223_0
                          replace hx223_1 := (HB.out.cell (World.block_lt_of_cell? w _ hx223_1)).trans hx223_1
                          replace hx223_2 := (HB.out.cell (World.block_lt_of_cell? w _ hx223_2)).trans hx223_2
                          replace hx223_3 := (HB.out.cell (World.block_lt_of_cell? w _ hx223_3)).trans hx223_3
                          replace hx223_4 := (HB.out.cell (World.block_lt_of_cell? w _ hx223_4)).trans hx223_4
                          have HR223_2 := Aside0.mk hi223_2
                          have HC223_2 := Aside0.mk hl223_2
                          clear hi223_2 hl223_2
                          have HR223_3 := Aside0.mk hi223_3
                          have HC223_3 := Aside0.mk hl223_3
                          clear hi223_3 hl223_3
                          have HR223_4 := Aside0.mk hi223_4
                          have HC223_4 := Aside0.mk hl223_4
                          clear hi223_4 hl223_4
                          replace p223 := eq_true p223
                          replace q223 := eq_true q223
                          have ea_ := Option.some.inj (hx222_2.symm.trans hx223_2)
                          injection ea_ with ea_ en_ ec_
                          subst ea_
                          subst ec_
                          clear en_
                          have ea_ := Option.some.inj (hx222_3.symm.trans hx223_3)
                          injection ea_ with ea_ en_ ec_
                          subst ea_
                          subst ec_
                          clear en_
                          have ea_ := Option.some.inj (hx222_4.symm.trans hx223_4)
                          injection ea_ with ea_ en_ ec_
                          subst ea_
                          subst ec_
                          clear en_
                          go_wp2
                          repeat (go_quiet (fail); try go_wp2)
                          go_loopg [3, 8] kj4 (fun kq v3 v8 w' => ∃ (x3_4 : Int) (x8_4 : Int), v3 = .int .i64 x3_4 ∧ v8 = .int .i64 x8_4 ∧ Aside0 (towlinelaw06_short.l2 kq x3_4 (wrap64 (x4_2 + 1)) (rd_L8 l0 x11_1) x7_2 x8_4 l0 (l0.length : Int) x11_1 = some r) ∧ Aside0 (kq ≤ kj4) ∧ Aside0 (Below w.heap.size w w'))
                          case atStart => exact ⟨(wrap64 (x3_2 + ((ji11) + (ji12)))), (0), (by first | rfl | (simp; done) | (simp only [← hji11, ← hji12] <;> (first | rfl | simp)) | (simp [*]; done)), (by first | rfl | (simp; done) | (simp [*]; done)), H', ⟨Nat.le_refl _⟩, ⟨by repeat (first | (with_reducible first | exact HB.out | apply below_alloc | apply pw_below_drewN | apply below_drew1) | exact HB.out)⟩⟩
                          case round =>
                            clear H'
                            try clear c1
                            try clear c2
                            try clear c2b0
                            try clear p2
                            try clear q2
                            try clear hx2
                            try clear c3
                            try clear c3b0
                            try clear c4
                            try clear c4b0
                            try clear c6
                            try clear c6b0
                            try clear p6
                            try clear c7
                            try clear c7b0
                            try clear c8
                            try clear c9
                            try clear c9b0
                            try clear c10
                            try clear c10b0
                            try clear hx221_0
                            try clear hx222_0
                            try clear hx222_1
                            try clear hx222_2
                            try clear hx222_3
                            try clear hx222_4
                            try clear hx223_0
                            try clear hx223_1
                            try clear hx223_2
                            try clear hx223_3
                            try clear hx223_4
                            try clear p2
                            try clear p221
                            try clear p222
                            try clear p223
                            try clear q2
                            try clear q221
                            try clear q222
                            try clear q223
                            obtain ⟨x3_4, x8_4, rfl, rfl, HA, HK4, HB⟩ := hrel
                            cases gk with
                            | zero => exact absurd HA.out (by simp [towlinelaw06_short.l2])
                            | succ k4 =>
                              have H := HA.out
                              clear HA
                              simp only [towlinelaw06_short.l2] at H
                              by_cases c13 : 0 ≤ x7_2
                              · rw [if_pos c13] at H
                                have c13b0 : decide (0 ≤ x7_2) = true := decide_eq_true c13
                                clear c13
                                by_cases c14 : x7_2 < ((rd_L8 l0 x11_1).length : Int)
                                · rw [if_pos c14] at H
                                  have c14b0 : decide (x7_2 < ((rd_L8 l0 x11_1).length : Int)) = true := decide_eq_true c14
                                  clear c14
                                  by_cases c15 : x8_4 < (((rd_T79 (rd_L8 l0 x11_1) x7_2).f3).length : Int)
                                  · rw [if_pos c15] at H
                                    have c15b0 : decide (x8_4 < (((rd_T79 (rd_L8 l0 x11_1) x7_2).f3).length : Int)) = true := decide_eq_true c15
                                    clear c15
                                    by_cases c16 : x3_4 ≤ 16384
                                    · rw [if_pos c16] at H
                                      have c16b0 : decide (x3_4 ≤ 16384) = true := decide_eq_true c16
                                      clear c16
                                      by_cases c17 : 0 ≤ x8_4
                                      · rw [if_pos c17] at H
                                        have c17b0 : decide (0 ≤ x8_4) = true := decide_eq_true c17
                                        clear c17
                                        obtain ⟨ji18, hji18⟩ : ∃ j_ : Int, (mn ((rd_L1 ((rd_T79 (rd_L8 l0 x11_1) x7_2).f3) x8_4).length : Int) 16385) = j_ := ⟨_, rfl⟩
                                        replace H : (towlinelaw06_short.l2 k4 (wrap64 (x3_4 + (4 + (ji18)))) (wrap64 (x4_2 + 1)) (rd_L8 l0 x11_1) x7_2 (wrap64 (x8_4 + 1)) l0 (l0.length : Int) x11_1) = some r := by first | (rw [hji18] at H; exact H) | (simp only [hji18] at H ⊢; exact H)
                                        have hji18_ : (if 16385 < ((rd_L1 ((rd_T79 (rd_L8 l0 x11_1) x7_2).f3) x8_4).length : Int) then 16385 else ((rd_L1 ((rd_T79 (rd_L8 l0 x11_1) x7_2).f3) x8_4).length : Int)) = ji18 := hji18
                                        have H' := Aside0.mk H
                                        clear H
                                        have p224 : 0 ≤ (x7_2 : Int) := of_decide_eq_true (by first | (with_reducible assumption) | assumption)
                                        have q224 : x7_2 < ((rd_L8 l0 x11_1).length : Int) := of_decide_eq_true (by first | (with_reducible assumption) | assumption)
                                        obtain ⟨ad224, A224_2, c224_2, A224_3, c224_3, A224_4, c224_4, e224, hx224_0, hx224_1, hx224_2, hx224_3, hx224_4, hl224_2, hi224_2, hl224_3, hi224_3, hl224_4, hi224_4⟩ := at_T79 HR221_0.out x7_2 p224 q224
                                        obtain rfl : ad222 = ad224 := (by injection e224)
                                        replace hx224_0 := (HB.out.cell (World.block_lt_of_cell? w _ hx224_0)).trans hx224_0
                                        replace hx224_1 := (HB.out.cell (World.block_lt_of_cell? w _ hx224_1)).trans hx224_1
                                        replace hx224_2 := (HB.out.cell (World.block_lt_of_cell? w _ hx224_2)).trans hx224_2
                                        replace hx224_3 := (HB.out.cell (World.block_lt_of_cell? w _ hx224_3)).trans hx224_3
                                        replace hx224_4 := (HB.out.cell (World.block_lt_of_cell? w _ hx224_4)).trans hx224_4
                                        have HR224_2 := Aside0.mk hi224_2
                                        have HC224_2 := Aside0.mk hl224_2
                                        clear hi224_2 hl224_2
                                        have HR224_3 := Aside0.mk hi224_3
                                        have HC224_3 := Aside0.mk hl224_3
                                        clear hi224_3 hl224_3
                                        have HR224_4 := Aside0.mk hi224_4
                                        have HC224_4 := Aside0.mk hl224_4
                                        clear hi224_4 hl224_4
                                        replace p224 := eq_true p224
                                        replace q224 := eq_true q224
                                        have p225 : 0 ≤ (x7_2 : Int) := of_decide_eq_true (by first | (with_reducible assumption) | assumption)
                                        have q225 : x7_2 < ((rd_L8 l0 x11_1).length : Int) := of_decide_eq_true (by first | (with_reducible assumption) | assumption)
                                        obtain ⟨ad225, A225_2, c225_2, A225_3, c225_3, A225_4, c225_4, e225, hx225_0, hx225_1, hx225_2, hx225_3, hx225_4, hl225_2, hi225_2, hl225_3, hi225_3, hl225_4, hi225_4⟩ := at_T79 HR221_0.out x7_2 p225 q225
                                        obtain rfl : ad222 = ad225 := (by injection e225)
                                        replace hx225_0 := (HB.out.cell (World.block_lt_of_cell? w _ hx225_0)).trans hx225_0
                                        replace hx225_1 := (HB.out.cell (World.block_lt_of_cell? w _ hx225_1)).trans hx225_1
                                        replace hx225_2 := (HB.out.cell (World.block_lt_of_cell? w _ hx225_2)).trans hx225_2
                                        replace hx225_3 := (HB.out.cell (World.block_lt_of_cell? w _ hx225_3)).trans hx225_3
                                        replace hx225_4 := (HB.out.cell (World.block_lt_of_cell? w _ hx225_4)).trans hx225_4
                                        have HR225_2 := Aside0.mk hi225_2
                                        have HC225_2 := Aside0.mk hl225_2
                                        clear hi225_2 hl225_2
                                        have HR225_3 := Aside0.mk hi225_3
                                        have HC225_3 := Aside0.mk hl225_3
                                        clear hi225_3 hl225_3
                                        have HR225_4 := Aside0.mk hi225_4
                                        have HC225_4 := Aside0.mk hl225_4
                                        clear hi225_4 hl225_4
                                        replace p225 := eq_true p225
                                        replace q225 := eq_true q225
                                        have ea_ := Option.some.inj (hx224_2.symm.trans hx225_2)
                                        injection ea_ with ea_ en_ ec_
                                        subst ea_
                                        subst ec_
                                        clear en_
                                        have ea_ := Option.some.inj (hx224_3.symm.trans hx225_3)
                                        injection ea_ with ea_ en_ ec_
                                        subst ea_
                                        subst ec_
                                        clear en_
                                        have ea_ := Option.some.inj (hx224_4.symm.trans hx225_4)
                                        injection ea_ with ea_ en_ ec_
                                        subst ea_
                                        subst ec_
                                        clear en_
                                        have p226 : 0 ≤ (x8_4 : Int) := of_decide_eq_true (by first | (with_reducible assumption) | assumption)
                                        have q226 : x8_4 < (((rd_T79 (rd_L8 l0 x11_1) x7_2).f3).length : Int) := of_decide_eq_true (by first | (with_reducible assumption) | assumption)
                                        obtain ⟨ad226, A226_0, c226_0, e226, hx226_0, hl226_0, hi226_0⟩ := at_L1 HR225_3.out x8_4 p226 q226
                                        cases e226
                                        replace hx226_0 := (HB.out.cell (World.block_lt_of_cell? w _ hx226_0)).trans hx226_0
                                        have HR226_0 := Aside0.mk hi226_0
                                        have HC226_0 := Aside0.mk hl226_0
                                        clear hi226_0 hl226_0
                                        replace p226 := eq_true p226
                                        replace q226 := eq_true q226
                                        go_wp2
                                        repeat (go_quiet (fail); try go_wp2)
                                        go_roundg k4
                                        case measure => have := HK1.out; have := HK2.out; have := HJ4.out; have := HK4.out; omega
                                        case rel => exact ⟨(wrap64 (x3_4 + (4 + (ji18)))), (wrap64 (x8_4 + 1)), (by first | rfl | (simp; done) | (simp only [← hji18] <;> (first | rfl | simp)) | (simp [*]; done)), (by first | rfl | (simp; done) | (simp [*]; done)), H', ⟨by have := HK1.out; have := HK2.out; have := HJ4.out; have := HK4.out; omega⟩, ⟨by repeat (first | (with_reducible first | exact HB.out | apply below_alloc | apply pw_below_drewN | apply below_drew1) | exact HB.out)⟩⟩
                                      · rw [if_neg c17] at H
                                        exact absurd H (by simp)
                                    · rw [if_neg c16] at H
                                      have c16b0 : decide (x3_4 ≤ 16384) = false := decide_eq_false c16
                                      clear c16
                                      have H' := Aside0.mk H
                                      clear H
                                      have p224 : 0 ≤ (x7_2 : Int) := of_decide_eq_true (by first | (with_reducible assumption) | assumption)
                                      have q224 : x7_2 < ((rd_L8 l0 x11_1).length : Int) := of_decide_eq_true (by first | (with_reducible assumption) | assumption)
                                      obtain ⟨ad224, A224_2, c224_2, A224_3, c224_3, A224_4, c224_4, e224, hx224_0, hx224_1, hx224_2, hx224_3, hx224_4, hl224_2, hi224_2, hl224_3, hi224_3, hl224_4, hi224_4⟩ := at_T79 HR221_0.out x7_2 p224 q224
                                      obtain rfl : ad222 = ad224 := (by injection e224)
                                      replace hx224_0 := (HB.out.cell (World.block_lt_of_cell? w _ hx224_0)).trans hx224_0
                                      replace hx224_1 := (HB.out.cell (World.block_lt_of_cell? w _ hx224_1)).trans hx224_1
                                      replace hx224_2 := (HB.out.cell (World.block_lt_of_cell? w _ hx224_2)).trans hx224_2
                                      replace hx224_3 := (HB.out.cell (World.block_lt_of_cell? w _ hx224_3)).trans hx224_3
                                      replace hx224_4 := (HB.out.cell (World.block_lt_of_cell? w _ hx224_4)).trans hx224_4
                                      have HR224_2 := Aside0.mk hi224_2
                                      have HC224_2 := Aside0.mk hl224_2
                                      clear hi224_2 hl224_2
                                      have HR224_3 := Aside0.mk hi224_3
                                      have HC224_3 := Aside0.mk hl224_3
                                      clear hi224_3 hl224_3
                                      have HR224_4 := Aside0.mk hi224_4
                                      have HC224_4 := Aside0.mk hl224_4
                                      clear hi224_4 hl224_4
                                      replace p224 := eq_true p224
                                      replace q224 := eq_true q224
                                      go_wp2
                                      repeat (go_quiet (fail); try go_wp2)
                                      go_roundg k4
                                      case measure => have := HK1.out; have := HK2.out; have := HJ4.out; have := HK4.out; omega
                                      case rel => exact ⟨(x3_4), ((wrap64 (x4_2 + 1))), (wrap64 (x7_2 + 1)), (by first | rfl | (simp; done) | (simp [*]; done)), (by first | rfl | (simp; done) | (simp [*]; done)), (by first | rfl | (simp; done) | (simp [*]; done)), H', ⟨by have := HK1.out; have := HK2.out; have := HJ4.out; have := HK4.out; omega⟩, ⟨by repeat (first | (with_reducible first | exact HB.out | apply below_alloc | apply pw_below_drewN | apply below_drew1) | exact HB.out)⟩⟩
                                  · rw [if_neg c15] at H
                                    have c15b0 : decide (x8_4 < (((rd_T79 (rd_L8 l0 x11_1) x7_2).f3).length : Int)) = false := decide_eq_false c15
                                    clear c15
                                    have H' := Aside0.mk H
                                    clear H
                                    have p224 : 0 ≤ (x7_2 : Int) := of_decide_eq_true (by first | (with_reducible assumption) | assumption)
                                    have q224 : x7_2 < ((rd_L8 l0 x11_1).length : Int) := of_decide_eq_true (by first | (with_reducible assumption) | assumption)
                                    obtain ⟨ad224, A224_2, c224_2, A224_3, c224_3, A224_4, c224_4, e224, hx224_0, hx224_1, hx224_2, hx224_3, hx224_4, hl224_2, hi224_2, hl224_3, hi224_3, hl224_4, hi224_4⟩ := at_T79 HR221_0.out x7_2 p224 q224
                                    obtain rfl : ad222 = ad224 := (by injection e224)
                                    replace hx224_0 := (HB.out.cell (World.block_lt_of_cell? w _ hx224_0)).trans hx224_0
                                    replace hx224_1 := (HB.out.cell (World.block_lt_of_cell? w _ hx224_1)).trans hx224_1
                                    replace hx224_2 := (HB.out.cell (World.block_lt_of_cell? w _ hx224_2)).trans hx224_2
                                    replace hx224_3 := (HB.out.cell (World.block_lt_of_cell? w _ hx224_3)).trans hx224_3
                                    replace hx224_4 := (HB.out.cell (World.block_lt_of_cell? w _ hx224_4)).trans hx224_4
                                    have HR224_2 := Aside0.mk hi224_2
                                    have HC224_2 := Aside0.mk hl224_2
                                    clear hi224_2 hl224_2
                                    have HR224_3 := Aside0.mk hi224_3
                                    have HC224_3 := Aside0.mk hl224_3
                                    clear hi224_3 hl224_3
                                    have HR224_4 := Aside0.mk hi224_4
                                    have HC224_4 := Aside0.mk hl224_4
                                    clear hi224_4 hl224_4
                                    replace p224 := eq_true p224
                                    replace q224 := eq_true q224
                                    go_wp2
                                    repeat (go_quiet (fail); try go_wp2)
                                    go_roundg k4
                                    case measure => have := HK1.out; have := HK2.out; have := HJ4.out; have := HK4.out; omega
                                    case rel => exact ⟨(x3_4), ((wrap64 (x4_2 + 1))), (wrap64 (x7_2 + 1)), (by first | rfl | (simp; done) | (simp [*]; done)), (by first | rfl | (simp; done) | (simp [*]; done)), (by first | rfl | (simp; done) | (simp [*]; done)), H', ⟨by have := HK1.out; have := HK2.out; have := HJ4.out; have := HK4.out; omega⟩, ⟨by repeat (first | (with_reducible first | exact HB.out | apply below_alloc | apply pw_below_drewN | apply below_drew1) | exact HB.out)⟩⟩
                                · rw [if_neg c14] at H
                                  exact absurd H (by simp)
                              · rw [if_neg c13] at H
                                exact absurd H (by simp)
                        · rw [if_neg c10] at H
                          exact absurd H (by simp)
                      · rw [if_neg c9] at H
                        exact absurd H (by simp)
                    · replace c8 := Bool.eq_false_iff.mpr c8
                      subst c8
                      have H1 : (towlinelaw06_short.l0 kj4 x3_2 x4_2 l0 (l0.length : Int) (wrap64 (x11_1 + 1))) = some r := by rw [if_neg (show ¬ (false = true) by decide)] at H; exact H
                      clear H
                      have H := H1
                      clear H1
                      have H' := Aside0.mk H
                      clear H
                      go_wp2
                      repeat (go_quiet (fail); try go_wp2)
                      go_roundg kj4
                      case measure => have := HK1.out; have := HK2.out; have := HJ4.out; omega
                      case rel => exact ⟨(x3_2), (x4_2), (wrap64 (x11_1 + 1)), (by first | rfl | (simp; done) | (simp [*]; done)), (by first | rfl | (simp; done) | (simp [*]; done)), (by first | rfl | (simp; done) | (simp [*]; done)), H', ⟨by have := HK1.out; have := HK2.out; have := HJ4.out; omega⟩, ⟨by repeat (first | (with_reducible first | exact HB.out | apply below_alloc | apply pw_below_drewN | apply below_drew1) | exact HB.out)⟩⟩
          · rw [if_neg c4] at H
            exact absurd H (by simp)
        · rw [if_neg c3] at H
          exact absurd H (by simp)
      · rw [if_neg c2] at H
        have c2b0 : decide (x11_1 < (l0.length : Int)) = false := decide_eq_false c2
        clear c2
        by_cases c19 : x4_1 ≤ 60
        · rw [if_pos c19] at H
          have c19b0 : decide (x4_1 ≤ 60) = true := decide_eq_true c19
          clear c19
          obtain rfl := Option.some.inj H
          go_wp2
          repeat (go_quiet (fail); try go_wp2)
          go_ret
          exact ⟨by first | rfl | (simp [errW_none, errW_some] <;> rfl) | (simp [*, errW_none, errW_some] <;> rfl), by repeat (first | (with_reducible first | exact HB.out | apply below_alloc | apply pw_below_drewN | apply below_drew1) | exact HB.out)⟩
        · rw [if_neg c19] at H
          have c19b0 : decide (x4_1 ≤ 60) = false := decide_eq_false c19
          clear c19
          obtain rfl := Option.some.inj H
          go_wp2
          repeat (go_quiet (fail); try go_wp2)
          go_ret
          exact ⟨by first | rfl | (simp [errW_none, errW_some] <;> rfl) | (simp [*, errW_none, errW_some] <;> rfl), by repeat (first | (with_reducible first | exact HB.out | apply below_alloc | apply pw_below_drewN | apply below_drew1) | exact HB.out)⟩
def slices_Clone_int_int.f (l0 : List Int) : Option (List Int) := if l0.length < 17592186044416 then some l0 else none
def towlinelaw06_texts.l0 : Nat → List ByteArray → List (List Int) → Int → Int → Option (List ByteArray)
  | 0, _, _, _, _ => none
  | k + 1, x3, x6, x7, x8 => if x8 < x7 then (if 0 ≤ x8 then (if x8 < (x6.length : Int) then (if x3.length < 8796093022208 then (towlinelaw06_texts.l0 k (x3 ++ [strOfNums (rd_L1 x6 x8)]) x6 x7 (wrap64 (x8 + 1))) else (none)) else (none)) else (none)) else (some x3)
def towlinelaw06_texts.f (k : Nat) (l0 : List (List Int)) : Option (List ByteArray) := towlinelaw06_texts.l0 k ([] : List ByteArray) l0 (l0.length : Int) 0
set_option maxHeartbeats 8000000 in
set_option maxRecDepth 100000 in
theorem towlinelaw06_texts.calls (k : Nat) (A0 : Option Addr) (c0 : Nat) (l0 : List (List Int)) (r : List ByteArray) (w : World) (hr0 : Kd.C (Kd.slice 5 (Kd.int .u8)) w A0 l0.length l0) (hc0 : l0.length ≤ c0) (h : towlinelaw06_texts.f k l0 = some r) :
    Calls Try.prog 43 #[.slice A0 l0.length c0] w fun e w' => ∃ v0_ : Value, e = .returned (v0_) ∧ Kd.R Kd.string 9 w' w.heap.size (fun _ => True) v0_ r ∧ Below w.heap.size w w' := by
  have HR0 := Aside0.mk hr0
  have HC0 := Aside0.mk hc0
  clear hr0 hc0
  have HB := Aside0.mk (Below.refl w.heap.size w)
  have H : (towlinelaw06_texts.l0 k ([] : List ByteArray) l0 (l0.length : Int) 0) = some r := h
  clear h
  have H' := Aside0.mk H
  clear H
  go_enter Try.func43, Try.ntmps43
  go_wp2
  go_loopg [3, 8] k (fun kq v3 v8 w' => ∃ (x3_1 : List ByteArray) (x8_1 : Int), v8 = .int .i64 x8_1 ∧ Aside0 (towlinelaw06_texts.l0 kq x3_1 l0 (l0.length : Int) x8_1 = some r) ∧ Aside0 (kq ≤ k) ∧ Aside0 (Kd.R Kd.string 9 w' w.heap.size (fun _ => True) v3 x3_1) ∧ Aside0 (Below w.heap.size w w'))
  case atStart => exact ⟨(([] : List ByteArray)), (0), (by first | rfl | (simp; done) | (simp [*]; done)), H', ⟨Nat.le_refl _⟩, ⟨by first | exact Kd.R_nil _ _ _ _ _ | exact Kd.N_nil _ _ _ _ _ | exact Kd.V_nil _ _ _ _ _ | exact Kd.Q_nil _ _ _ _ _ | exact Kd.S_nil _ _ _ _ _⟩, ⟨by repeat (first | (with_reducible first | exact HB.out | apply below_alloc | apply pw_below_drewN | apply below_drew1) | exact HB.out)⟩⟩
  case round =>
    clear H'
    obtain ⟨x3_1, x8_1, rfl, HA, HK1, HO_3, HB⟩ := hrel
    cases gk with
    | zero => exact absurd HA.out (by simp [towlinelaw06_texts.l0])
    | succ k1 =>
      have H := HA.out
      clear HA
      simp only [towlinelaw06_texts.l0] at H
      by_cases c2 : x8_1 < (l0.length : Int)
      · rw [if_pos c2] at H
        have c2b0 : decide (x8_1 < (l0.length : Int)) = true := decide_eq_true c2
        clear c2
        by_cases c3 : 0 ≤ x8_1
        · rw [if_pos c3] at H
          have c3b0 : decide (0 ≤ x8_1) = true := decide_eq_true c3
          clear c3
          by_cases c4 : x8_1 < (l0.length : Int)
          · rw [if_pos c4] at H
            have c4b0 : decide (x8_1 < (l0.length : Int)) = true := decide_eq_true c4
            clear c4
            by_cases c5 : x3_1.length < 8796093022208
            · rw [if_pos c5] at H
              have LMc5 := Aside0.mk c5
              clear c5
              obtain ⟨y228, hy228⟩ : ∃ y_ : List ByteArray, y_ = (x3_1 ++ [strOfNums (rd_L1 l0 x8_1)]) := ⟨_, rfl⟩
              replace H : (towlinelaw06_texts.l0 k1 y228 l0 (l0.length : Int) (wrap64 (x8_1 + 1))) = some r := by first | (rw [hy228]; with_reducible exact H) | (have H2_ := (Option.bind_some _ _).symm.trans H; rw [hy228]; with_reducible exact H2_) | (have H2_ := (Option.bind_some _ _).symm.trans H; with_reducible exact H2_) | with_reducible exact H | (rw [hy228]; exact H) | exact H
              have Ny228 := Aside0.mk hy228
              clear hy228
              have H' := Aside0.mk H
              clear H
              have p227 : 0 ≤ (x8_1 : Int) := of_decide_eq_true (by first | (with_reducible assumption) | assumption)
              have q227 : x8_1 < (l0.length : Int) := of_decide_eq_true (by first | (with_reducible assumption) | assumption)
              obtain ⟨ad227, A227_0, c227_0, e227, hx227_0, hl227_0, hi227_0⟩ := at_L1 HR0.out x8_1 p227 q227
              cases e227
              replace hx227_0 := (HB.out.cell (World.block_lt_of_cell? w _ hx227_0)).trans hx227_0
              have HR227_0 := Aside0.mk hi227_0
              have HC227_0 := Aside0.mk hl227_0
              clear hi227_0 hl227_0
              replace p227 := eq_true p227
              replace q227 := eq_true q227
              have hcv6 := Kd.C_string (P := Try.prog) (A := A227_0) (c := c227_0) Try.underlying32 Try.underlying5 Try.underlying9 (Kd.C_below HR227_0.out HB.out)
              go_wp2_with (first | ((with_reducible refine gate_builtin (b := .append) (xs := #[.tmp 12, .tmp 15]) rfl ?_); at_builtin; refine Kd.R_append Kd.string (w0 := w) w.heap.size rfl (.tmp 12) (.tmp 15) 81 9 (.string ⟨#[]⟩) 16 rfl Try.underlying81 info9 rfl (by decide) (by omega) u3 x3_1 (strOfNums (rd_L1 l0 x8_1)) [.string (strOfNums (rd_L1 l0 x8_1))] (fun _ => True) (fun _ => False) rfl rfl ?aP (fun _ hk => hk.elim) ?aF ?aO ?aB ?aS ?aL ?_; (case aP => exact rfl); (case aB => exact (by repeat (first | (with_reducible first | exact HB.out | apply below_alloc | apply pw_below_drewN | apply below_drew1) | exact HB.out))); (case aF => exact (fun _ _ => trivial)); (case aO => exact (by (with_reducible repeat (first | apply Kd.R_alloc | apply Kd.R_drewN | apply Kd.R_drew)); exact HO_3.out)); (case aS => exact (below_size (by repeat (first | (with_reducible first | exact HB.out | apply below_alloc | apply pw_below_drewN | apply below_drew1) | exact HB.out)))); (case aL => have := LMc5.out; omega); intro v229 w7 ho hb hg hat; rw [← Ny228.out] at ho; have n0_ := Aside0.mk (hb); have n1_ := Aside0.mk (ho); clear HB; clear HO_3; have HB := n0_; have HO230 := n1_; clear n0_ n1_; clear ho hb hg hat))
              go_roundg k1
              case measure => have := HK1.out; omega
              case rel => exact ⟨(y228), (wrap64 (x8_1 + 1)), (by first | rfl | (simp; done) | (simp [*]; done)), H', ⟨by have := HK1.out; omega⟩, ⟨by (with_reducible repeat (first | apply Kd.R_alloc | apply Kd.R_drewN | apply Kd.R_drew)); exact HO230.out⟩, ⟨by repeat (first | (with_reducible first | exact HB.out | apply below_alloc | apply pw_below_drewN | apply below_drew1) | exact HB.out)⟩⟩
            · rw [if_neg c5] at H
              exact absurd H (by simp)
          · rw [if_neg c4] at H
            exact absurd H (by simp)
        · rw [if_neg c3] at H
          exact absurd H (by simp)
      · rw [if_neg c2] at H
        have c2b0 : decide (x8_1 < (l0.length : Int)) = false := decide_eq_false c2
        clear c2
        obtain rfl := Option.some.inj H
        go_wp2
        go_ret
        exact ⟨_, by first | rfl | (simp [errW_none, errW_some] <;> rfl) | (simp [*, errW_none, errW_some] <;> rfl), by (with_reducible repeat (first | apply Kd.R_alloc | apply Kd.R_drewN | apply Kd.R_drew)); exact HO_3.out, by repeat (first | (with_reducible first | exact HB.out | apply below_alloc | apply pw_below_drewN | apply below_drew1) | exact HB.out)⟩
end Go.Proofs.Ytehjbhnlbjbhfaa.PTapePlays
-- PTapePlaysx
namespace Go.Proofs.Ytehjbhnlbjbhfaa.PTapePlays
open Go.RowKit Go.Proofs.YtehjbhnlbjbhfaaW.PrintWords Go.Proofs.YtehjbhnlbjbhfaaW.PrintLast Go.Proofs.YtehjbhnlbjbhfaaW.PrintMore
attribute [local go_sem] max2_int min2_int max_two min_two
set_option linter.unusedVariables false
set_option linter.unusedSimpArgs false
end Go.Proofs.Ytehjbhnlbjbhfaa.PTapePlays
