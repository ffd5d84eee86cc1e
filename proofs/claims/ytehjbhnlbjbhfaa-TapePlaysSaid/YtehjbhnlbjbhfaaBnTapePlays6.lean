/- Texts that the row of LawTapePlays rests on, part 6 of 15: contracts of the functions, their walks, plain laws. -/
import Derived.Test.YtehjbhnlbjbhfaaBnTapePlays5
import Derived.Laws.BitsLemmas
import Derived.Laws.BitsAllLaws
import Derived.Laws.DeepNot64
import Derived.Laws.Bits64b
import Derived.Test.YtehjbhnlbjbhfaaProg
import Derived.Below
import Derived.Deep.Draws
import Derived.Deep.AppendLies
import Derived.Maps.AppendAt
import Derived.OwnWalk
import Derived.Laws.BytesArg
import Derived.Laws.MakeOwn
import Derived.Laws.OwnMore
import Derived.Deep.OwnRows
import Derived.Tactics
import Derived.Lib.ConvBytes
import Derived.Laws.Slices
import Derived.WalkKit
import Derived.KernelRfl
import Derived.RowKit3
import Derived.Deep.LoopGhost
import Derived.Deep.QuietTactic
import Derived.BigQuiet
import Derived.WideLaws
import Derived.Deep.DeepCutAuto
import Derived.Deep.CutBlock
import Derived.Deep.RegionHeld3
import Derived.Laws.Rows
import Derived.Lib.AppendStr
import Derived.ArgAppend
import Derived.Laws.IdiomCopy
import Derived.OrdersHeld
import Derived.RowKit
import Derived.Lib.SliceRun
-- PlainS
namespace Go.Proofs.Ytehjbhnlbjbhfaa.Wire
open Go Go.RowKit Go.Proofs.YtehjbhnlbjbhfaaW.PrintWords Go.Proofs.YtehjbhnlbjbhfaaW.PrintLast Go.Proofs.YtehjbhnlbjbhfaaW.PrintMore
open Go.Proofs.Ytehjbhnlbjbhfaa.WBase
set_option linter.unusedVariables false
def bitS (c : Nat) : Nat := if c % 2 = 1 then (c / 2) ^^^ 2197175160 else c / 2
def bitsS : Nat → Nat → Nat
  | 0, c => c
  | n + 1, c => bitsS n (bitS c)
def crc (l : List Int) (c : Nat) : Nat := l.foldl (fun c x => bitsS 8 (c ^^^ x.toNat)) c
def sumP (l : List Int) : Int := ((4294967295 ^^^ crc l 4294967295 : Nat) : Int)
theorem bitS_lt {c : Nat} (h : c < 4294967296) : bitS c < 4294967296 := by
  unfold bitS
  split
  · exact Nat.xor_lt_two_pow (n := 32) (by omega) (by decide)
  · omega
theorem bitsS_lt : ∀ (n c : Nat), c < 4294967296 → bitsS n c < 4294967296 := by
  intro n
  induction n with
  | zero => intro c h; exact h
  | succ n ih => intro c h; exact ih _ (bitS_lt h)
theorem xor_lt {a b : Nat} (ha : a < 4294967296) (hb : b < 4294967296) : a ^^^ b < 4294967296 := Nat.xor_lt_two_pow (n := 32) ha hb
theorem crc_lt : ∀ (l : List Int) (c : Nat), Bs l → c < 4294967296 → crc l c < 4294967296 := by
  intro l
  induction l with
  | nil => intro c _ h; exact h
  | cons x r ih =>
    intro c hb h
    have hx := hb x (List.mem_cons_self ..)
    exact ih _ (fun y hy => hb y (List.mem_cons_of_mem _ hy)) (bitsS_lt 8 _ (xor_lt h (by omega)))
theorem sumP_range (l : List Int) (h : Bs l) : 0 ≤ sumP l ∧ sumP l < 4294967296 := by
  have h1 := xor_lt (a := 4294967295) (by decide) (crc_lt l 4294967295 h (by decide))
  unfold sumP
  generalize 4294967295 ^^^ crc l 4294967295 = m at *
  omega
theorem and32 (a b : Nat) (ha : a < 4294967296) (hb : b < 4294967296) : Go.bits .and .u32 (a : Int) (b : Int) = ((a &&& b : Nat) : Int) :=
  (bits_nat .u32 32 (by decide) (fun n h0 h1 => by simp only [IntKind.wrap, IntKind.bits, IntKind.signed]; simp; omega) a b ha hb).1
theorem bit_w (c : Nat) (h : c < 4294967296) : Go.bits .xor .u32 ((c : Int) / 2) (Go.bits .and .u32 2197175160 ((-(Go.bits .and .u32 (c : Int) 1)) % 4294967296)) = (bitS c : Int) := by
  have h1 : Go.bits .and .u32 (c : Int) 1 = ((c % 2 : Nat) : Int) := by
    have := and32 c 1 h (by decide)
    rw [Nat.and_one_is_mod] at this
    exact this
  rw [h1, show (c : Int) / 2 = ((c / 2 : Nat) : Int) by omega]
  unfold bitS
  rcases Nat.mod_two_eq_zero_or_one c with h2 | h2
  · rw [h2, if_neg (by decide), show (-((0 : Nat) : Int)) % 4294967296 = ((0 : Nat) : Int) by decide, show (2197175160 : Int) = ((2197175160 : Nat) : Int) from rfl, and32 _ _ (by decide) (by decide), Nat.and_zero, u32_xor_nat _ _ (by omega) (by decide), Nat.xor_zero]
  · rw [h2, if_pos rfl, show (-((1 : Nat) : Int)) % 4294967296 = ((4294967295 : Nat) : Int) by decide, show (2197175160 : Int) = ((2197175160 : Nat) : Int) from rfl, and32 _ _ (by decide) (by decide), show (2197175160 : Nat) &&& 4294967295 = 2197175160 by decide, u32_xor_nat _ _ (by omega) (by decide)]
theorem sum_l1 (s : List Int) (x8 x9 : Int) : ∀ (n j k : Nat) (c : Nat), c < 4294967296 → j + n = 8 → n < k → wire_Sum.l1 k (c : Int) s x8 x9 (j : Int) = wire_Sum.l0 (k - n - 1) ((bitsS n c : Nat) : Int) s x8 (wrap64 (x9 + 1)) := by
  intro n
  induction n with
  | zero =>
    intro j k c hc hj hk
    obtain ⟨k, rfl⟩ : ∃ k', k = k' + 1 := ⟨k - 1, by omega⟩
    simp only [wire_Sum.l1]
    rw [if_neg (by omega)]
    rfl
  | succ n ih =>
    intro j k c hc hj hk
    obtain ⟨k, rfl⟩ : ∃ k', k = k' + 1 := ⟨k - 1, by omega⟩
    simp only [wire_Sum.l1]
    rw [if_pos (by omega), bit_w c hc, show wrap64 ((j : Int) + 1) = ((j + 1 : Nat) : Int) by unfold wrap64; omega, ih (j + 1) k (bitS c) (bitS_lt hc) (by omega) (by omega), show k + 1 - (n + 1) - 1 = k - n - 1 by omega]
    rfl
theorem sum_l0 (s : List Int) (hs : Bs s) (hlen : s.length < 140737488355328) : ∀ (r : List Int) (i k c : Nat), s.drop i = r → c < 4294967296 → i ≤ s.length → 10 * r.length < k → wire_Sum.l0 k (c : Int) s (s.length : Int) (i : Int) = some ((4294967295 ^^^ crc r c : Nat) : Int) := by
  intro r
  induction r with
  | nil =>
    intro i k c hd hc hi hk
    obtain ⟨k, rfl⟩ : ∃ k', k = k' + 1 := ⟨k - 1, by omega⟩
    have h0 := List.drop_eq_nil_iff.1 hd
    simp only [wire_Sum.l0]
    rw [if_neg (by omega), show (4294967295 : Int) = ((4294967295 : Nat) : Int) from rfl, u32_xor_nat _ _ (by decide) hc]
    rfl
  | cons x r ih =>
    intro i k c hd hc hi hk
    obtain ⟨hx, hlt, hmem, hd2⟩ := rd_drop hd
    obtain ⟨hx0, hx1⟩ := hs x hmem
    obtain ⟨b, rfl⟩ := Int.eq_ofNat_of_zero_le hx0
    rw [List.length_cons] at hk
    obtain ⟨k, rfl⟩ : ∃ k', k = k' + 1 := ⟨k - 1, by omega⟩
    simp only [wire_Sum.l0]
    rw [if_pos (by omega), if_pos (by omega), if_pos (by omega), hx, show (b : Int) % 4294967296 = (b : Int) by omega, u32_xor_nat _ _ hc (by omega)]
    have h1 := sum_l1 s (s.length : Int) (i : Int) 8 0 k (c ^^^ b) (xor_lt hc (by omega)) rfl (by omega)
    refine h1.trans ?_
    clear h1
    rw [show wrap64 ((i : Int) + 1) = ((i + 1 : Nat) : Int) by unfold wrap64; omega]
    exact ih (i + 1) _ _ hd2 (bitsS_lt 8 _ (xor_lt hc (by omega))) (by omega) (by omega)
theorem Sum_eq (s : List Int) (hs : Bs s) (hlen : s.length < 140737488355328) (k : Nat) (hk : 10 * s.length < k) : wire_Sum.f k s = some (sumP s) := sum_l0 s hs hlen s 0 k 4294967295 rfl (by decide) (Nat.zero_le _) hk
end Go.Proofs.Ytehjbhnlbjbhfaa.Wire
-- Open
namespace Go.Proofs.Ytehjbhnlbjbhfaa.Wire
open Go Go.RowKit Go.Proofs.YtehjbhnlbjbhfaaW.PrintWords Go.Proofs.YtehjbhnlbjbhfaaW.PrintLast Go.Proofs.YtehjbhnlbjbhfaaW.PrintMore
open Go.Proofs.Ytehjbhnlbjbhfaa.WBase
attribute [local go_sem] max2_int min2_int max_two min_two
set_option linter.unusedVariables false
set_option linter.unusedSimpArgs false
def fourP (a : Int) : List Int := [(a / 16777216) % 256, (a / 65536) % 256, (a / 256) % 256, a % 256]
def openP (l : List Int) : List Int × Nat × Int :=
  if (bytesP (l.take 8208) 0 8192).2.2 ≠ 0 then ([], 0, (bytesP (l.take 8208) 0 8192).2.2)
  else if l.length < (bytesP (l.take 8208) 0 8192).2.1 + 4 then ([], 0, 2)
  else if fourP (sumP (l.take (bytesP (l.take 8208) 0 8192).2.1)) = (l.drop (bytesP (l.take 8208) 0 8192).2.1).take 4 then ((bytesP (l.take 8208) 0 8192).1, (bytesP (l.take 8208) 0 8192).2.1 + 4, 0)
  else ([], 0, 11)
theorem Bs.take {l : List Int} (h : Bs l) (n : Nat) : Bs (l.take n) := fun x hx => h x (List.mem_of_mem_take hx)
theorem Bs.drop {l : List Int} (h : Bs l) (n : Nat) : Bs (l.drop n) := fun x hx => h x (List.mem_of_mem_drop hx)
theorem bytesP_le (s : List Int) (at_ : Nat) (most : Int) (h : at_ ≤ s.length) : (bytesP s at_ most).2.1 ≤ s.length := by
  unfold bytesP
  generalize (if most < 0 then (0 : Int) else most) = M
  split
  · exact h
  · split
    · exact h
    · split
      · exact h
      · rename_i c; show at_ + (num (s.drop at_)).2.1 + (num (s.drop at_)).1 ≤ s.length; omega
theorem rd_nat {l : List Int} {j : Nat} (h : j < l.length) : rd l (j : Int) = l[j] := by
  unfold rd
  rw [Int.toNat_natCast, List.getD_eq_getElem?_getD, List.getElem?_eq_getElem h]; rfl
theorem four_all {x y : List Int} {n : Nat} (hx : x.length = 4) (hn : n + 4 ≤ y.length) (h : ∀ i, i < 4 → rd y ((n + i : Nat) : Int) = rd x (i : Int)) : x = (y.drop n).take 4 := by
  apply List.ext_getElem
  · rw [hx, List.length_take, List.length_drop]; omega
  · intro i h1 h2
    have h3 := h i (by omega)
    rw [rd_nat (by omega), rd_nat (by omega)] at h3
    rw [List.getElem_take, List.getElem_drop]; exact h3.symm
theorem four_not {x y : List Int} {n i : Nat} (hx : x.length = 4) (hn : n + 4 ≤ y.length) (hi : i < 4) (h : rd y ((n + i : Nat) : Int) ≠ rd x (i : Int)) : x ≠ (y.drop n).take 4 := by
  intro e
  apply h
  rw [rd_nat (show n + i < y.length by omega), rd_nat (show i < x.length by omega)]
  subst e
  rw [List.getElem_take, List.getElem_drop]
theorem cut_take {w0 : World} (A : Option Addr) (c : Nat) (s : List Int) (m : Nat) (hC : Kd.C (Kd.int .u8) w0 A s.length s) (hc : s.length ≤ c) (hm : m ≤ s.length) :
    (∀ W : World, (Instr.slice 32 (.slice A s.length c) none (some (.int .i64 (m : Int))) none).run Try.prog W = .ok (.slice A (s.take m).length c) W) ∧ Kd.C (Kd.int .u8) w0 A (s.take m).length (s.take m) ∧ (s.take m).length ≤ c := by
  obtain ⟨i0, hi, hz0, hz1, hz2⟩ := info_parts info5
  have hl : (s.take m).length = m := by rw [List.length_take]; omega
  refine ⟨fun W => ?_, Kd.C_take hC hm, by omega⟩
  rw [cut_to (P := Try.prog) 32 5 .i64 Try.underlying32 hi A s.length c m (by omega) (by omega) hc W, hl, Int.toNat_natCast]
set_option maxHeartbeats 8000000 in
set_option maxRecDepth 100000 in
theorem Open_calls (A0 : Option Addr) (c0 : Nat) (l : List Int) (w : World) (hr0 : Kd.C (Kd.int .u8) w A0 l.length l) (hc0 : l.length ≤ c0) (hs : Bs l) (hlen : l.length < 140737488355328) :
    Calls Try.prog 92 #[.slice A0 l.length c0] w fun e w' => ∃ v, e = .returned (.tuple #[v, .int .i64 ((openP l).2.1 : Int), .int .i64 (openP l).2.2]) ∧ Kd.R (Kd.int .u8) 5 w' w.heap.size (fun _ => True) v (openP l).1 ∧ Below w.heap.size w w' := by
  have HR0 := Aside0.mk hr0
  have HC0 := Aside0.mk hc0
  have HS := Aside0.mk hs
  have HLN := Aside0.mk hlen
  have HO := Aside0.mk (show openP l = openP l from rfl)
  conv at HO => arg 1; rhs; unfold openP
  obtain ⟨P, hP⟩ : ∃ P, openP l = P := ⟨_, rfl⟩
  rw [hP] at HO ⊢
  obtain ⟨m, hm, hml⟩ : ∃ m : Nat, (if (8208 : Int) < (l.length : Int) then (8208 : Int) else (l.length : Int)) = (m : Int) ∧ m ≤ l.length ∧ l.take m = l.take 8208 := by
    by_cases h : (8208 : Int) < (l.length : Int)
    · exact ⟨8208, if_pos h, by omega, rfl⟩
    · exact ⟨l.length, if_neg h, Nat.le_refl _, by rw [List.take_of_length_le (Nat.le_refl _), List.take_of_length_le (by omega)]⟩
  have hbt := bytesP_le (l.take 8208) 0 8192 (Nat.zero_le _)
  have htl : (l.take 8208).length ≤ l.length := List.length_take_le' _ _
  obtain ⟨hcut, hCt, hlt⟩ := cut_take A0 c0 l m HR0.out HC0.out hml.1
  rw [hml.2] at hcut hCt hlt
  have HSy := Aside0.mk (Bs.take hs 8208)
  generalize l.take 8208 = y at *
  obtain ⟨q, hq⟩ : ∃ q, bytesP y 0 8192 = q := ⟨_, rfl⟩
  rw [hq] at HO hbt
  have HQ := Aside0.mk hq
  have HCt := Aside0.mk hCt
  have HLt := Aside0.mk hlt
  obtain ⟨d, n, er⟩ := q
  replace hbt : n ≤ y.length := hbt
  have HYL := Aside0.mk (show y.length < 140737488355328 by omega)
  have HBT := Aside0.mk (show n ≤ l.length by omega)
  clear hr0 hc0 hs hlen hP hml hbt htl hCt hlt hq
  go_enter Try.func92, Try.ntmps92
  go_wp2_with (fail)
  refine (Read_calls A0 c0 y _ HCt.out HLt.out HYL.out).mono ?_
  rintro e w2 ⟨w1, g, rfl, hI, hB1, hB⟩
  have HB1 := Aside0.mk hB1
  have HI2 := Aside0.mk hI
  have HB2 := Aside0.mk hB
  clear hB1 hI hB
  go_wp2_with (fail)
  refine (Bytes_calls g y 0 8192 (by omega) w1 _ HI2.out HB2.out HSy.out HYL.out (Nat.zero_le _)).mono ?_
  rintro e w3 ⟨v, rfl, hR, hI, hB, hK⟩
  rw [HQ.out] at hR hI
  have HR := Aside0.mk hR
  have HI := Aside0.mk hI
  have HB := Aside0.mk hB
  have HK := Aside0.mk hK
  have HE := Aside0.mk (show wire_Reader_Err.f y (n : Int) er true = some (er, (n : Int), er, true) from rfl)
  have HZ2 := Aside0.mk (below_step HB1.out HB2.out).size
  clear hR hI hB hK HI2 HB2 HQ
  go_wp2_with (fail)
  refine (wire_Reader_Err.calls g y _ _ _ _ _ _ _ w1 _ HI.out HB.out HE.out).mono ?_
  rintro e w4 ⟨rfl, hI, hB, hK⟩
  have HI4 := Aside0.mk hI
  have HBW := Aside0.mk (below_step HB1.out hB)
  have HR4 := Aside0.mk (Kd.R_mono (ok' := fun _ => True) (Kd.R_lower (Kd.R_keep HR.out hK (fun k hk => hk)) HZ2.out) (fun _ _ => trivial))
  clear hI hB hK HR HI HB HK HB1 HE
  by_cases c0 : er = 0
  · subst c0
    have HN := Aside0.mk HBT.out
    obtain ⟨AS, cS, HG, hg, HSx⟩ := HI4.out
    have hc_1 := cellS62_1 HG
    clear HG hg HSx
    have hw1 : wrap64 ((l.length : Int) - (n : Int)) = (l.length : Int) - (n : Int) := by have h1 := HLN.out; have h2 := HBT.out; unfold wrap64; omega
    by_cases c1 : l.length < n + 4
    · have hP : P = ([], 0, 2) := by have h := HO.out; simp only [ne_eq, not_true_eq_false, if_false] at h; rw [if_pos c1] at h; exact h
      subst hP
      have c1b : decide ((l.length : Int) - (n : Int) < 4) = true := decide_eq_true (by clear hw1; omega)
      have HC1 := Aside0.mk c1
      clear c1
      go_wp2_with (fail)
      go_ret3
      exact ⟨_, rfl, Kd.R_nil _ _ _ _ _, HBW.out⟩
    · have hO2 : P = if fourP (sumP (l.take n)) = (l.drop n).take 4 then (d, n + 4, 0) else ([], 0, 11) := by have h := HO.out; simp only [ne_eq, not_true_eq_false, if_false] at h; rw [if_neg c1] at h; exact h
      have HO2 := Aside0.mk hO2
      have c1b : decide ((l.length : Int) - (n : Int) < 4) = false := decide_eq_false (by clear hw1; omega)
      have HC1 := Aside0.mk c1
      obtain ⟨hcut2, hCs, hls⟩ := cut_take A0 c0 l n HR0.out HC0.out HBT.out
      have HSUM := Aside0.mk (Sum_eq (l.take n) (Bs.take HS.out n) (by rw [List.length_take]; have := HLN.out; clear hw1; omega) (10 * (l.take n).length + 1) (Nat.lt_succ_self _))
      have HCs := Aside0.mk (Kd.C_below hCs HBW.out)
      have HLs := Aside0.mk hls
      clear c1 hO2 hCs hls HO
      generalize l.take n = ys at *
      go_wp2_with (fail)
      refine (wire_Sum.calls _ A0 c0 ys _ _ HCs.out HLs.out HSUM.out).mono ?_
      rintro e w5 ⟨rfl, ⟨nd, rfl⟩⟩
      clear hc_1 hcut2
      go_wp2_with (fail)
      refine (wire_four.calls (sumP ys) (fourP (sumP ys)) _ rfl).mono ?_
      rintro e w6 ⟨v4, rfl, h4, hb⟩
      have HB6 := Aside0.mk (below_step (pw_below_drewN HBW.out nd) hb)
      have HR6 := Aside0.mk (Kd.R_below (Kd.R_drewN HR4.out nd) hb)
      obtain ⟨A4, c4, hv4⟩ := Kd.R_slice h4
      subst hv4
      have H4 := Aside0.mk h4
      have hx4 : (fourP (sumP ys)).length = 4 := rfl
      clear h4 hb HBW HR4 HSUM HCs HLs
      generalize fourP (sumP ys) = x4 at *
      have HX4 := Aside0.mk hx4
      go_wp2_with (fail)
      go_loopw [41] (fun v41 wr => ∃ j : Nat, j ≤ 4 ∧ v41 = .int .i64 (j : Int) ∧ Aside0 (∀ i, i < j → rd l ((n + i : Nat) : Int) = rd x4 (i : Int)) ∧ Aside0 (Below w6.heap.size w6 wr)) (fun v41 _ => (4 - intOf v41).toNat)
      case atStart => exact ⟨0, by omega, rfl, ⟨fun i hi => absurd hi (Nat.not_lt_zero _)⟩, ⟨Below.refl _ _⟩⟩
      case round =>
        obtain ⟨j, hj, rfl, HF, HB⟩ := hrel
        have hjl : x4.length = 4 := hx4
        by_cases hlt : j < 4
        · obtain ⟨p, hp⟩ : ∃ p : Nat, n + j = p := ⟨_, rfl⟩
          have hpl : p < l.length := by have := HC1.out; omega
          have hj4 : j < x4.length := by omega
          obtain ⟨ad, e0, hx⟩ := Kd.at_int HR0.out (p : Int) (by omega) (by omega)
          cases e0
          obtain ⟨ad4, e4, hy⟩ := Kd.at_int (Kd.R_reads' H4.out).2.2 (j : Int) (by omega) (by omega)
          cases e4
          have HWR := Aside0.mk (below_step HB6.out HB.out)
          replace hx := (HWR.out.cell (World.block_lt_of_cell? _ _ hx)).trans hx
          replace hy := (HB.out.cell (World.block_lt_of_cell? _ _ hy)).trans hy
          rw [Int.toNat_natCast] at hx hy
          have hw2 : wrap64 ((n : Int) + (j : Int)) = (p : Int) := wrap64_sum hp (by have := HLN.out; clear hw1; omega)
          have hw3 : wrap64 ((j : Int) + 1) = ((j + 1 : Nat) : Int) := by clear hw1 hw2; unfold wrap64; omega
          have HFJ := Aside0.mk (show ∀ b : Int, rd l (p : Int) = b → rd x4 (j : Int) = b → ∀ i, i < j + 1 → rd l ((n + i : Nat) : Int) = rd x4 (i : Int) from fun b h1 h2 i hi => by
            rcases Nat.lt_or_ge i j with h | h
            · exact HF.out i h
            · obtain rfl : i = j := by omega
              rw [hp, h1, h2])
          have HNE := Aside0.mk (show rd l (p : Int) ≠ rd x4 (j : Int) → x4 ≠ (l.drop n).take 4 from fun h => four_not (i := j) HX4.out (by have := HC1.out; clear hw1 hw2 hw3; omega) hlt (by rw [hp]; exact h))
          have HP := Aside0.mk hp
          have HLT := Aside0.mk hlt
          clear hp hlt
          generalize rd l (p : Int) = b1 at *
          generalize rd x4 (j : Int) = b2 at *
          by_cases hb : b1 = b2
          · subst hb
            have hbb : (b1 != b1) = false := by simp
            go_wp2
            go_roundw
            case rel => exact ⟨j + 1, HLT.out, rfl, ⟨HFJ.out b1 rfl rfl⟩, HB⟩
            case measure => simp [intOf]; have := HLT.out; clear hw1 hw2 hw3; omega
          · have hbb : (b1 != b2) = true := bne_iff_ne.mpr hb
            have hP : P = ([], 0, 11) := by rw [HO2.out, if_neg (HNE.out hb)]
            subst hP
            clear hb
            go_wp2
            go_ret3
            exact ⟨_, rfl, Kd.R_nil _ _ _ _ _, HWR.out⟩
        · obtain rfl : j = 4 := by omega
          have hP : P = (d, n + 4, 0) := by rw [HO2.out, if_pos (four_all HX4.out (by have := HC1.out; clear hw1; omega) HF.out)]
          subst hP
          have hw2 : wrap64 ((n : Int) + 4) = ((n + 4 : Nat) : Int) := by have h1 := HLN.out; have h2 := HBT.out; clear hw1; unfold wrap64; omega
          have HWR := Aside0.mk (below_step HB6.out HB.out)
          go_wp2
          go_ret3
          exact ⟨_, rfl, Kd.R_below HR6.out HB.out, HWR.out⟩
  · have hP : P = ([], 0, er) := by have h := HO.out; rw [if_pos c0] at h; exact h
    subst hP
    have c0b : (er != 0) = true := bne_iff_ne.mpr c0
    go_wp2_with (fail)
    go_ret3
    exact ⟨_, rfl, Kd.R_nil _ _ _ _ _, HBW.out⟩
end Go.Proofs.Ytehjbhnlbjbhfaa.Wire
-- PlainT
namespace Go.Proofs.Ytehjbhnlbjbhfaa.Wire
open Go Go.RowKit
set_option linter.unusedVariables false
theorem u64w (n : Int) : IntKind.u64.wrap n = n % 18446744073709551616 := by simp [IntKind.wrap, IntKind.bits, IntKind.signed]
theorem wf_u8 {a : Int} (h : (Lit.int .u8 a).wf = true) : 0 ≤ a ∧ a < 256 := by
  simp only [Lit.wf, Bool.and_eq_true, decide_eq_true_eq] at h
  rw [show IntKind.u8.min = 0 from by decide, show IntKind.u8.max = 255 from by decide] at h
  omega
theorem wf_i64 {a : Int} (h : (Lit.int .i64 a).wf = true) : -9223372036854775808 ≤ a ∧ a ≤ 9223372036854775807 := by
  simp only [Lit.wf, Bool.and_eq_true, decide_eq_true_eq] at h
  rw [show IntKind.i64.min = -9223372036854775808 from by decide, show IntKind.i64.max = 9223372036854775807 from by decide] at h
  omega
end Go.Proofs.Ytehjbhnlbjbhfaa.Wire
-- PlainW
namespace Go.Proofs.Ytehjbhnlbjbhfaa.Wire
open Go Go.RowKit Go.Proofs.YtehjbhnlbjbhfaaW.PrintWords Go.Proofs.YtehjbhnlbjbhfaaW.PrintLast Go.Proofs.YtehjbhnlbjbhfaaW.PrintMore
set_option linter.unusedVariables false
theorem xor_ones32 (a : Nat) (h : a < 4294967296) : 4294967295 ^^^ a = 4294967295 - a := by
  apply Nat.eq_of_testBit_eq
  intro i
  rw [Nat.testBit_xor, show (4294967295 : Nat) = 2 ^ 32 - 1 from rfl, Nat.testBit_two_pow_sub_one, show 2 ^ 32 - 1 - a = 2 ^ 32 - (a + 1) by omega, Nat.testBit_two_pow_sub_succ (show a < 2 ^ 32 from h)]
  by_cases hi : i < 32
  · rw [decide_eq_true hi]; cases a.testBit i <;> rfl
  · rw [decide_eq_false hi, Nat.testBit_lt_two_pow (Nat.lt_of_lt_of_le (show a < 2 ^ 32 from h) (Nat.pow_le_pow_right (by decide) (by omega)))]; rfl
theorem enc_small (f : Nat) {n : Nat} (h : n < 128) : enc f n = [(n : Int)] := by
  cases f with
  | zero => rfl
  | succ f => unfold enc; rw [if_pos h]
theorem enc_big (f : Nat) {n : Nat} (h : ¬ n < 128) : enc (f + 1) n = (128 + (n : Int) % 128) :: enc f (n / 128) := by
  show (if n < 128 then _ else _) = _
  rw [if_neg h]
theorem div_lt {f n : Nat} (h : n < 128 ^ (f + 1 + 1)) : n / 128 < 128 ^ (f + 1) := by
  rw [Nat.pow_succ] at h
  exact (Nat.div_lt_iff_lt_mul (by decide)).2 h
theorem enc_bs (f : Nat) : ∀ n, n < 128 ^ (f + 1) → Bs (enc f n) := by
  induction f with
  | zero => intro n h x hx; simp [enc] at hx; omega
  | succ f ih =>
    intro n h x hx
    by_cases c : n < 128
    · rw [enc_small _ c] at hx; simp at hx; omega
    · rw [enc_big _ c] at hx
      rcases List.mem_cons.1 hx with rfl | hx
      · omega
      · exact ih _ (div_lt h) x hx
theorem pow10 {n : Nat} (h : n < 18446744073709551616) : n < 128 ^ (9 + 1) := Nat.lt_trans h (by decide)
theorem enc64_bs {n : Nat} (h : n < 18446744073709551616) : Bs (enc 9 n) := enc_bs 9 n (pow10 h)
theorem Bs.app {a b : List Int} (ha : Bs a) (hb : Bs b) : Bs (a ++ b) := fun x hx => (List.mem_append.1 hx).elim (ha x) (hb x)
theorem four_bs (a : Int) : Bs (fourP a) := by intro x hx; simp [fourP] at hx; omega
theorem four_len (a : Int) : (fourP a).length = 4 := rfl
theorem four_ref {t : Int} (h : 0 ≤ t ∧ t < 4294967296) : [((Int.tdiv t 16777216) % 4294967296) % 256, ((Int.tdiv t 65536) % 4294967296) % 256, ((Int.tdiv t 256) % 4294967296) % 256, (Int.tmod t 256) % 256] = fourP t := by
  rw [Int.tdiv_eq_ediv_of_nonneg h.1, Int.tdiv_eq_ediv_of_nonneg h.1, Int.tdiv_eq_ediv_of_nonneg h.1, Int.tmod_eq_emod_of_nonneg h.1]
  unfold fourP
  simp only [List.cons.injEq, and_true]
  omega
def recP (l : List Int) : List Int := enc 9 l.length ++ l
def sealP (l : List Int) : List Int := recP l ++ fourP (sumP (recP l))
theorem rec_bs {l : List Int} (h : Bs l) (hl : l.length < 18446744073709551616) : Bs (recP l) := (enc64_bs hl).app h
theorem seal_bs {l : List Int} (h : Bs l) (hl : l.length < 18446744073709551616) : Bs (sealP l) := (rec_bs h hl).app (four_bs _)
theorem seal_len (l : List Int) : (sealP l).length = (enc 9 l.length).length + l.length + 4 := by unfold sealP recP; rw [List.length_append, List.length_append]; rfl
end Go.Proofs.Ytehjbhnlbjbhfaa.Wire
-- PlainX
namespace Go.Proofs.Ytehjbhnlbjbhfaa.Wire
open Go Go.RowKit Go.Proofs.YtehjbhnlbjbhfaaW.PrintWords Go.Proofs.YtehjbhnlbjbhfaaW.PrintLast Go.Proofs.YtehjbhnlbjbhfaaW.PrintMore
set_option linter.unusedVariables false
theorem enc_short {n : Nat} (h : n < 16384) : (enc 9 n).length ≤ 2 := by
  by_cases c : n < 128
  · rw [enc_small _ c]; simp
  · rw [enc_big 8 c, enc_small _ (by omega)]; simp
theorem rec_len (l : List Int) (hl : l.length ≤ 8192) : (recP l).length ≤ 8194 := by
  have := enc_short (show l.length < 16384 by omega)
  unfold recP; rw [List.length_append]; omega
end Go.Proofs.Ytehjbhnlbjbhfaa.Wire
-- PlainY
namespace Go.Proofs.Ytehjbhnlbjbhfaa.Wire
open Go Go.RowKit Go.Proofs.YtehjbhnlbjbhfaaW.PrintWords Go.Proofs.YtehjbhnlbjbhfaaW.PrintLast Go.Proofs.YtehjbhnlbjbhfaaW.PrintMore
set_option linter.unusedVariables false
theorem num_ten (n : Nat) (r : List Int) : (numGo 10 n r).2.2 ≠ 0 := by
  cases r with
  | nil => simp [numGo]
  | cons x r => rw [num_long (.inl rfl)]; decide
theorem num_back : ∀ (r : List Int) (i acc : Nat), Bs r → i ≤ 9 → (numGo i acc r).2.2 = 0 → ∃ m, (numGo i acc r).1 = acc + m * 128 ^ i ∧ enc (9 - i) m = r.take ((numGo i acc r).2.1 - i) ∧ (0 < m ∨ i = 0) ∧ i < (numGo i acc r).2.1 := by
  intro r
  induction r with
  | nil => intro i acc _ _ h; simp [numGo] at h
  | cons x r ih =>
    intro i acc hb hi h
    have hx := hb x (List.mem_cons_self ..)
    obtain ⟨b, rfl⟩ := Int.eq_ofNat_of_zero_le hx.1
    by_cases c : i = 10 ∨ (i = 9 ∧ 1 < (b : Int).toNat % 128)
    · rw [num_long c] at h; exact absurd h (by decide)
    · by_cases d : (b : Int) = 0 ∧ 0 < i
      · rw [num_form c d] at h; exact absurd h (by decide)
      · by_cases e : (b : Int) < 128
        · rw [num_last c d e, Int.toNat_natCast, Nat.mod_eq_of_lt (show b < 128 by omega)]
          refine ⟨b, rfl, ?_, by omega, by show i < i + 1; omega⟩
          rw [enc_small _ (show b < 128 by omega)]
          show _ = List.take (i + 1 - i) _
          rw [Nat.add_sub_cancel_left]; rfl
        · rw [num_more c d e, Int.toNat_natCast] at h ⊢
          have hi9 : i < 9 := by
            rcases Nat.lt_or_ge i 9 with h9 | h9
            · exact h9
            · obtain rfl : i = 9 := by omega
              exact absurd h (num_ten _ _)
          obtain ⟨m, h1, h2, h3, h4⟩ := ih (i + 1) _ (fun y hy => hb y (List.mem_cons_of_mem _ hy)) (by omega) h
          have hm : 0 < m := by omega
          refine ⟨b % 128 + 128 * m, ?_, ?_, by omega, by omega⟩
          · rw [h1, Nat.pow_succ, Nat.add_mul, Nat.add_assoc, Nat.mul_comm (128 ^ i) 128, ← Nat.mul_assoc, Nat.mul_comm m 128]
          · obtain ⟨f, hf⟩ : ∃ f, 9 - i = f + 1 := ⟨8 - i, by omega⟩
            rw [hf, enc_big f (by omega)]
            obtain ⟨k, hk⟩ : ∃ k, (numGo (i + 1) (acc + b % 128 * 128 ^ i) r).2.1 - i = k + 1 := ⟨(numGo (i + 1) (acc + b % 128 * 128 ^ i) r).2.1 - i - 1, by omega⟩
            rw [hk, List.take_succ_cons, show (b % 128 + 128 * m) / 128 = m by omega, show f = 9 - (i + 1) by omega, h2, show (numGo (i + 1) (acc + b % 128 * 128 ^ i) r).2.1 - (i + 1) = k by omega]
            congr 1
            omega
theorem num_canon {r : List Int} (hb : Bs r) (h : (num r).2.2 = 0) : enc 9 (num r).1 = r.take (num r).2.1 := by
  obtain ⟨m, h1, h2, _, _⟩ := num_back r 0 0 hb (by decide) h
  unfold num at h ⊢
  rw [h1, Nat.pow_zero, Nat.mul_one, Nat.zero_add]
  exact h2
theorem num_le {r : List Int} (h : (num r).2.2 = 0) : (num r).2.1 ≤ r.length ∧ 0 < (num r).2.1 := by
  have := numGo_ok r 0 0 h
  unfold num; omega
theorem num_lt (r : List Int) : (num r).1 < 18446744073709551616 := numGo_lt r 0 0 (by decide) (by decide)
end Go.Proofs.Ytehjbhnlbjbhfaa.Wire
-- PlainZ
namespace Go.Proofs.Ytehjbhnlbjbhfaa.Wire
open Go Go.RowKit Go.Proofs.YtehjbhnlbjbhfaaW.PrintWords Go.Proofs.YtehjbhnlbjbhfaaW.PrintLast Go.Proofs.YtehjbhnlbjbhfaaW.PrintMore
set_option linter.unusedVariables false
theorem bytes_canon {s d : List Int} {a : Nat} (hb : Bs s) (h : bytesP s 0 8192 = (d, a, 0)) : d.length ≤ 8192 ∧ a ≤ s.length ∧ recP d = s.take a := by
  unfold bytesP at h
  rw [List.drop_zero] at h
  by_cases c0 : (num s).2.2 ≠ 0
  · rw [if_pos c0] at h; exact absurd (congrArg (fun z => z.2.2) h) c0
  · rw [if_neg c0] at h
    have c0' : (num s).2.2 = 0 := Decidable.not_not.1 c0
    have hc := num_canon hb c0'
    have hle := num_le c0'
    generalize num s = q at *
    by_cases c1 : (if (8192 : Int) < 0 then (0 : Int) else 8192) < (q.1 : Int)
    · rw [if_pos c1] at h; exact absurd (show (4 : Int) = 0 from congrArg (fun z => z.2.2) h) (by decide)
    · rw [if_neg c1] at h
      by_cases c2 : s.length < 0 + q.2.1 + q.1
      · rw [if_pos c2] at h; exact absurd (show (2 : Int) = 0 from congrArg (fun z => z.2.2) h) (by decide)
      · rw [if_neg c2] at h
        have h1 : (s.drop (0 + q.2.1)).take q.1 = d := congrArg (fun z => z.1) h
        have h2 : 0 + q.2.1 + q.1 = a := congrArg (fun z => z.2.1) h
        have c1' : q.1 ≤ 8192 := by rw [if_neg (by decide)] at c1; omega
        rw [Nat.zero_add] at h1 h2
        have hl : d.length = q.1 := by rw [← h1, List.length_take, List.length_drop]; omega
        refine ⟨by omega, by omega, ?_⟩
        unfold recP
        rw [hl, hc, ← h1, ← h2, List.take_add]
theorem open_canon {l d : List Int} {n : Nat} (hb : Bs l) (h : openP l = (d, n, 0)) : d.length ≤ 8192 ∧ n ≤ l.length ∧ sealP d = l.take n := by
  unfold openP at h
  have hbc := fun d a => @bytes_canon (l.take 8208) d a (hb.take 8208)
  generalize bytesP (l.take 8208) 0 8192 = q at *
  obtain ⟨d', a, e⟩ := q
  simp only at h hbc
  by_cases c0 : e ≠ 0
  · rw [if_pos c0] at h
    exact absurd (congrArg (fun z => z.2.2) h) c0
  · rw [if_neg c0] at h
    have c0' : e = 0 := Decidable.not_not.1 c0
    subst c0'
    by_cases c1 : l.length < a + 4
    · rw [if_pos c1] at h
      exact absurd (show (2 : Int) = 0 from congrArg (fun z => z.2.2) h) (by decide)
    · rw [if_neg c1] at h
      by_cases c2 : fourP (sumP (l.take a)) = (l.drop a).take 4
      · rw [if_pos c2] at h
        have h1 : a + 4 = n := congrArg (fun z => z.2.1) h
        have h2 : d' = d := congrArg (fun z => z.1) h
        subst h2
        obtain ⟨b1, b2, b3⟩ := hbc d' a rfl
        rw [List.length_take] at b2
        refine ⟨b1, by omega, ?_⟩
        unfold sealP
        rw [b3, List.take_take, Nat.min_eq_left (by omega), c2, ← h1, List.take_add]
      · rw [if_neg c2] at h
        exact absurd (show (11 : Int) = 0 from congrArg (fun z => z.2.2) h) (by decide)
end Go.Proofs.Ytehjbhnlbjbhfaa.Wire
-- PlainR
namespace Go.Proofs.Ytehjbhnlbjbhfaa.Wire
open Go Go.RowKit Go.Proofs.YtehjbhnlbjbhfaaW.PrintWords Go.Proofs.YtehjbhnlbjbhfaaW.PrintLast Go.Proofs.YtehjbhnlbjbhfaaW.PrintMore
open Go.Proofs.Ytehjbhnlbjbhfaa.WBase
set_option linter.unusedVariables false
def resR (was : Nat) (q : Nat × Nat × Int) : Option (Int × Int × Int) := some (if q.2.2 = 0 then ((q.1 : Int), ((was + q.2.1 : Nat) : Int), 0) else (0, (was : Int), q.2.2))
theorem r_l0_end {k : Nat} {n st i at_ : Int} {s : List Int} (hi : i < 11) (h : wrap64 (at_ + i) ≥ (s.length : Int)) : towlineref01_Reader_Number.l0 (k + 1) n st i s at_ 0 = some (0, at_, 2) := by
  simp only [towlineref01_Reader_Number.l0]; rw [if_pos hi, if_pos h]
theorem r_l0 {k : Nat} {n st i at_ p low : Int} {s : List Int} (hi : i < 11) (hp : wrap64 (at_ + i) = p) (h0 : 0 ≤ p) (h1 : p < (s.length : Int)) (hl : IntKind.u64.wrap (Int.tmod (rd s p) 128) = low) : towlineref01_Reader_Number.l0 (k + 1) n st i s at_ 0 = towlineref01_Reader_Number.j1 k n st i (rd s p) low i (if i = 10 then true else if i = 9 then decide (low > 1) else false) s at_ 0 := by
  simp only [towlineref01_Reader_Number.l0]
  rw [hp, if_pos hi, if_neg (by omega), if_pos h0, if_pos h1, hl]
  split
  · rfl
  · split <;> rfl
theorem r_j1_t {k : Nat} {n st i x low j at_ : Int} {s : List Int} : towlineref01_Reader_Number.j1 (k + 1) n st i x low j true s at_ 0 = some (0, at_, 5) := by
  simp only [towlineref01_Reader_Number.j1]; rw [if_pos trivial]
theorem r_j1_f {k : Nat} {n st i x low j at_ : Int} {s : List Int} : towlineref01_Reader_Number.j1 (k + 1) n st i x low j false s at_ 0 = towlineref01_Reader_Number.j2 k n st i x low j (if x = 0 then decide (i > 0) else false) s at_ 0 := by
  simp only [towlineref01_Reader_Number.j1]; rw [if_neg (by decide)]
  split <;> rfl
theorem r_j2_t {k : Nat} {n st i x low j at_ : Int} {s : List Int} : towlineref01_Reader_Number.j2 (k + 1) n st i x low j true s at_ 0 = some (0, at_, 10) := by
  simp only [towlineref01_Reader_Number.j2]; rw [if_pos trivial]
theorem r_j2_f {k : Nat} {n st i x low j at_ : Int} {s : List Int} : towlineref01_Reader_Number.j2 (k + 1) n st i x low j false s at_ 0 = if x < 128 then some (IntKind.u64.wrap (n + IntKind.u64.wrap (low * st)), wrap64 (wrap64 (at_ + i) + 1), 0) else towlineref01_Reader_Number.l0 k (IntKind.u64.wrap (n + IntKind.u64.wrap (low * st))) (IntKind.u64.wrap (st * 128)) (wrap64 (j + 1)) s at_ 0 := by
  simp only [towlineref01_Reader_Number.j2]; rw [if_neg (by decide)]
theorem add_step (n low i : Nat) (hn : n < 128 ^ i) (hi : i ≤ 9) (hl : low < 128) (h9 : i = 9 → low ≤ 1) (st : Nat) (hst : st = 128 ^ i % 18446744073709551616) :
    IntKind.u64.wrap ((n : Int) + IntKind.u64.wrap ((low : Int) * (st : Int))) = ((n + low * 128 ^ i : Nat) : Int) := by
  have h9p : (128 : Nat) ^ 9 = 9223372036854775808 := by decide
  have hp : (128 : Nat) ^ i ≤ 128 ^ 9 := Nat.pow_le_pow_right (by decide) hi
  have hst2 : st = 128 ^ i := by rw [hst]; exact Nat.mod_eq_of_lt (by omega)
  rw [hst2, ← Int.natCast_mul]
  have hlt : low * 128 ^ i < 9223372036854775809 := by
    rcases Nat.lt_or_ge i 9 with h | h
    · have h8 : (128 : Nat) ^ i ≤ 128 ^ 8 := Nat.pow_le_pow_right (by decide) (by omega)
      have : low * 128 ^ i ≤ 127 * 128 ^ 8 := Nat.mul_le_mul (by omega) h8
      have : (127 : Nat) * 128 ^ 8 = 9151314442816847872 := by decide
      omega
    · have : i = 9 := by omega
      subst this
      have := h9 rfl
      have : low * 128 ^ 9 ≤ 1 * 128 ^ 9 := Nat.mul_le_mul_right _ this
      omega
  rw [wrap_nat (by omega), ← Int.natCast_add, wrap_nat (by omega)]
theorem rnumber_l0 (s : List Int) (hs : Bs s) (hlen : s.length < 140737488355328) (was : Nat) : ∀ (r : List Int) (i n st k : Nat), s.drop (was + i) = r → i ≤ 10 → n < 128 ^ i → st = 128 ^ i % 18446744073709551616 → was + i ≤ s.length → 3 * (12 - i) ≤ k →
    towlineref01_Reader_Number.l0 k (n : Int) (st : Int) (i : Int) s (was : Int) 0 = resR was (numGo i n r) := by
  intro r
  induction r with
  | nil =>
    intro i n st k hd hi hn hst hle hk
    obtain ⟨k, rfl⟩ : ∃ k', k = k' + 1 := ⟨k - 1, by omega⟩
    have := List.drop_eq_nil_iff.1 hd
    rw [r_l0_end (by omega) (by unfold wrap64; omega)]
    rfl
  | cons x r ih =>
    intro i n st k hd hi hn hst hle hk
    obtain ⟨k, rfl⟩ : ∃ k', k = k' + 3 := ⟨k - 3, by omega⟩
    obtain ⟨hx, hlt, hmem, hd2⟩ := rd_drop hd
    obtain ⟨hx0, hx1⟩ := hs x hmem
    obtain ⟨b, rfl⟩ := Int.eq_ofNat_of_zero_le hx0
    have hw := Aside0.mk (show wrap64 ((was : Int) + (i : Int)) = ((was + i : Nat) : Int) by unfold wrap64; omega)
    have hlow := Aside0.mk (show IntKind.u64.wrap (Int.tmod (rd s ((was + i : Nat) : Int)) 128) = ((b % 128 : Nat) : Int) by
      rw [hx, Int.tmod_eq_emod_of_nonneg (by omega), wrap_u64']; omega)
    have h0 : (0 : Int) ≤ ((was + i : Nat) : Int) := by omega
    have h1 : ((was + i : Nat) : Int) < (s.length : Int) := by omega
    rw [r_l0 (by omega) hw.out h0 h1 hlow.out, hx]
    have hb : (b : Int).toNat = b := Int.toNat_natCast b
    by_cases c : i = 10 ∨ (i = 9 ∧ 1 < (b : Int).toNat % 128)
    · rw [num_long c]
      rw [hb] at c
      have ht : (if (i : Int) = 10 then true else if (i : Int) = 9 then decide (((b % 128 : Nat) : Int) > 1) else false) = true := by
        rcases c with c | ⟨c, d⟩
        · rw [if_pos (by omega)]
        · rw [if_neg (by omega), if_pos (by omega)]; exact decide_eq_true (by omega)
      rw [ht, r_j1_t]; rfl
    · have c' := c
      rw [hb] at c
      have ht : (if (i : Int) = 10 then true else if (i : Int) = 9 then decide (((b % 128 : Nat) : Int) > 1) else false) = false := by
        rw [if_neg (by omega)]
        split
        · exact decide_eq_false (by omega)
        · rfl
      rw [ht, r_j1_f]
      by_cases d : (b : Int) = 0 ∧ 0 < i
      · rw [num_form c' d, if_pos d.1, decide_eq_true (by omega), r_j2_t]; rfl
      · have ht2 : (if (b : Int) = 0 then decide ((i : Int) > 0) else false) = false := by
          split
          · exact decide_eq_false (by omega)
          · rfl
        rw [ht2, r_j2_f, add_step n (b % 128) i hn (by omega) (Nat.mod_lt _ (by decide)) (by intro h9; omega) st hst]
        by_cases c8 : (b : Int) < 128
        · rw [if_pos c8, num_last c' d c8, hb, hw.out, show wrap64 (((was + i : Nat) : Int) + 1) = ((was + (i + 1) : Nat) : Int) by unfold wrap64; omega]; rfl
        · rw [if_neg c8, num_more c' d c8, hb, show wrap64 ((i : Int) + 1) = ((i + 1 : Nat) : Int) by unfold wrap64; omega, show IntKind.u64.wrap ((st : Int) * 128) = ((st * 128 % 18446744073709551616 : Nat) : Int) by rw [wrap_u64']; omega]
          exact ih (i + 1) _ _ k hd2 (by omega) (step_lt n i b hn) (by rw [hst, Nat.pow_succ, Nat.mod_mul_mod]) (by omega) (by omega)
theorem rNumber_eq (s : List Int) (hs : Bs s) (hlen : s.length < 140737488355328) (at_ : Nat) (hat : at_ ≤ s.length) (k : Nat) (hk : 36 ≤ k) :
    towlineref01_Reader_Number.f k s (at_ : Int) 0 = resR at_ (num (s.drop at_)) := by
  unfold towlineref01_Reader_Number.f
  rw [if_pos rfl]
  exact rnumber_l0 s hs hlen at_ (s.drop at_) 0 0 1 k rfl (by decide) (by decide) (by decide) hat hk
end Go.Proofs.Ytehjbhnlbjbhfaa.Wire
-- RefBytes
namespace Go.Proofs.Ytehjbhnlbjbhfaa.Wire
open Go Go.RowKit Go.Proofs.YtehjbhnlbjbhfaaW.PrintWords Go.Proofs.YtehjbhnlbjbhfaaW.PrintLast Go.Proofs.YtehjbhnlbjbhfaaW.PrintMore
open Go.Proofs.Ytehjbhnlbjbhfaa.WBase (IsS140 towlineref01_Reader_Number.f towlineref01_Reader_Number.calls cellS71_0 cellS71_1 cellS71_2)
attribute [local go_sem] max2_int min2_int max_two min_two
set_option linter.unusedVariables false
set_option linter.unusedSimpArgs false
set_option maxHeartbeats 8000000 in
set_option maxRecDepth 100000 in
theorem rBytes_calls (g : Nat) (s : List Int) (at_ : Nat) (most : Int) (hmost : -9223372036854775808 ≤ most ∧ most ≤ 9223372036854775807) (w0 w : World) (hI : IsS140 w0 w g s (at_ : Int) 0) (hB : Below w0.heap.size w0 w) (hs : Bs s) (hlen : s.length < 140737488355328) (hat : at_ ≤ s.length) :
    Calls Try.prog 86 #[.pointer (some ⟨g, 0, none⟩), .int .i64 most] w fun e w' => ∃ v, e = .returned v ∧ Kd.R (Kd.int .u8) 5 w' w.heap.size (fun k => k ≠ g) v (bytesP s at_ most).1 ∧ IsS140 w0 w' g s ((bytesP s at_ most).2.1 : Int) (bytesP s at_ most).2.2 ∧ Below w0.heap.size w0 w' ∧ KeepBut w w' g none := by
  have HI := Aside0.mk hI
  have HK := Aside0.mk (KeepBut.refl w g none)
  have HB := Aside0.mk hB
  have HSB := Aside0.mk hs
  have hN := rNumber_eq s hs hlen at_ hat 36 (by decide)
  have hok := numGo_ok (s.drop at_) 0 0
  have hlt := numGo_lt (s.drop at_) 0 0 (by decide) (by decide)
  rw [show numGo 0 0 (s.drop at_) = num (s.drop at_) from rfl] at hok hlt
  unfold bytesP
  generalize num (s.drop at_) = q at *
  obtain ⟨n, c, e⟩ := q
  simp only at hN hok hlt ⊢
  have HLT := Aside0.mk hlt
  clear hI hB hs hlt
  by_cases c0 : e = 0
  · subst c0
    obtain ⟨p, hp⟩ : ∃ p : Nat, at_ + c = p := ⟨_, rfl⟩
    replace hN : towlineref01_Reader_Number.f 36 s (at_ : Int) 0 = some ((n : Int), (p : Int), 0) := by rw [← hp]; exact hN
    rw [hp]
    have HN := Aside0.mk hN
    obtain ⟨hcl, hcp⟩ := hok rfl
    rw [List.length_drop] at hcl
    clear hok hN
    simp only [ne_eq, not_true_eq_false, if_false]
    obtain ⟨M, hMX⟩ : ∃ M : Int, (if most < 0 then (0 : Int) else most) = M := ⟨_, rfl⟩
    have hM0 : 0 ≤ M ∧ M < 18446744073709551616 := by rw [← hMX]; split <;> omega
    have hw1 : IntKind.u64.wrap M = M := by rw [wrap_u64']; omega
    rw [hMX]
    clear hmost
    by_cases c1 : M < (n : Int)
    · rw [if_pos c1]
      have c1b : decide (M < (n : Int)) = true := decide_eq_true c1
      have HC1 := Aside0.mk c1; (try have HC2 := Aside0.mk c2); have HM0 := Aside0.mk hM0; have HLN := Aside0.mk hlen; have HAT := Aside0.mk hat; have HCL := Aside0.mk hcl; have HP := Aside0.mk hp; clear c1 hM0 hlen hat hcl hcp hp; (try clear c2)
      go_enter Try.func86, Try.ntmps86
      obtain ⟨AS, cS, HG, hg, HS⟩ := HI.out; have hc_0 := cellS71_0 HG; have hc_1 := cellS71_1 HG; have hc_2 := cellS71_2 HG; have hf_1 := blk_frozen HG 1; have hf_2 := blk_frozen HG 2; clear hg HG
      go_wp2_with (first | (go_at_call 98; (with_reducible refine (towlineref01_Reader_Number.calls 36 g s _ _ _ _ _ w0 _ (by repeat (first | (with_reducible first | exact HI.out | apply IsS140.alloc | apply IsS140.drewN | apply IsS140.drew | apply IsS140.set_1 | apply IsS140.set_2) | exact HI.out)) (by repeat (first | (with_reducible first | exact HB.out | apply below_alloc | apply pw_below_drewN | apply below_drew1 | refine below_set ?_ (IsS140.ge HI.out)) | exact HB.out)) HN.out).mono ?_); rintro e w4 ⟨rfl, hi, hb, hk⟩; have n0_ := Aside0.mk (KeepBut.trans (by repeat (first | (with_reducible first | exact HK.out | apply KeepBut.set_ | apply keep_drewN | apply keep_drew | apply keep_alloc) | exact HK.out)) hk (.inl rfl)); have n1_ := Aside0.mk hb; have n2_ := Aside0.mk hi; clear HK; clear HB; clear HI; have HK := n0_; have HB := n1_; have HI := n2_; clear n0_ n1_ n2_; (try clear hb); (try clear hk); (try clear hi); (try clear hc_0); (try clear hc_1); (try clear hc_2); (try clear hf_1); (try clear hf_2); (try clear HS); (try clear cS); (try clear AS); obtain ⟨AS, cS, HG, hg, HS⟩ := HI.out; have hc_0 := cellS71_0 HG; have hc_1 := cellS71_1 HG; have hc_2 := cellS71_2 HG; have hf_1 := blk_frozen HG 1; have hf_2 := blk_frozen HG 2; clear hg HG)); repeat (go_quiet (first | (go_at_call 98; (with_reducible refine (towlineref01_Reader_Number.calls 36 g s _ _ _ _ _ w0 _ (by repeat (first | (with_reducible first | exact HI.out | apply IsS140.alloc | apply IsS140.drewN | apply IsS140.drew | apply IsS140.set_1 | apply IsS140.set_2) | exact HI.out)) (by repeat (first | (with_reducible first | exact HB.out | apply below_alloc | apply pw_below_drewN | apply below_drew1 | refine below_set ?_ (IsS140.ge HI.out)) | exact HB.out)) HN.out).mono ?_); rintro e w4 ⟨rfl, hi, hb, hk⟩; have n0_ := Aside0.mk (KeepBut.trans (by repeat (first | (with_reducible first | exact HK.out | apply KeepBut.set_ | apply keep_drewN | apply keep_drew | apply keep_alloc) | exact HK.out)) hk (.inl rfl)); have n1_ := Aside0.mk hb; have n2_ := Aside0.mk hi; clear HK; clear HB; clear HI; have HK := n0_; have HB := n1_; have HI := n2_; clear n0_ n1_ n2_; (try clear hb); (try clear hk); (try clear hi); (try clear hc_0); (try clear hc_1); (try clear hc_2); (try clear hf_1); (try clear hf_2); (try clear HS); (try clear cS); (try clear AS); obtain ⟨AS, cS, HG, hg, HS⟩ := HI.out; have hc_0 := cellS71_0 HG; have hc_1 := cellS71_1 HG; have hc_2 := cellS71_2 HG; have hf_1 := blk_frozen HG 1; have hf_2 := blk_frozen HG 2; clear hg HG)); try go_wp2_with (first | (go_at_call 98; (with_reducible refine (towlineref01_Reader_Number.calls 36 g s _ _ _ _ _ w0 _ (by repeat (first | (with_reducible first | exact HI.out | apply IsS140.alloc | apply IsS140.drewN | apply IsS140.drew | apply IsS140.set_1 | apply IsS140.set_2) | exact HI.out)) (by repeat (first | (with_reducible first | exact HB.out | apply below_alloc | apply pw_below_drewN | apply below_drew1 | refine below_set ?_ (IsS140.ge HI.out)) | exact HB.out)) HN.out).mono ?_); rintro e w4 ⟨rfl, hi, hb, hk⟩; have n0_ := Aside0.mk (KeepBut.trans (by repeat (first | (with_reducible first | exact HK.out | apply KeepBut.set_ | apply keep_drewN | apply keep_drew | apply keep_alloc) | exact HK.out)) hk (.inl rfl)); have n1_ := Aside0.mk hb; have n2_ := Aside0.mk hi; clear HK; clear HB; clear HI; have HK := n0_; have HB := n1_; have HI := n2_; clear n0_ n1_ n2_; (try clear hb); (try clear hk); (try clear hi); (try clear hc_0); (try clear hc_1); (try clear hc_2); (try clear hf_1); (try clear hf_2); (try clear HS); (try clear cS); (try clear AS); obtain ⟨AS, cS, HG, hg, HS⟩ := HI.out; have hc_0 := cellS71_0 HG; have hc_1 := cellS71_1 HG; have hc_2 := cellS71_2 HG; have hf_1 := blk_frozen HG 1; have hf_2 := blk_frozen HG 2; clear hg HG)))
      go_ret
      exact ⟨_, rfl, Kd.R_nil _ _ _ _ _, by repeat (first | (with_reducible first | exact HI.out | apply IsS140.alloc | apply IsS140.drewN | apply IsS140.drew | apply IsS140.set_1 | apply IsS140.set_2) | exact HI.out), by repeat (first | (with_reducible first | exact HB.out | apply below_alloc | apply pw_below_drewN | apply below_drew1 | refine below_set ?_ (IsS140.ge HI.out)) | exact HB.out), by repeat (first | (with_reducible first | exact HK.out | apply KeepBut.set_ | apply keep_drewN | apply keep_drew | apply keep_alloc) | exact HK.out)⟩
    · rw [if_neg c1]
      have c1b : decide (M < (n : Int)) = false := decide_eq_false c1
      have hw2 : wrap64 ((s.length : Int) - (p : Int)) = (s.length : Int) - (p : Int) := by unfold wrap64; omega
      have hw3 : IntKind.u64.wrap ((s.length : Int) - (p : Int)) = (s.length : Int) - (p : Int) := by rw [wrap_u64']; omega
      by_cases c2 : s.length < p + n
      · rw [if_pos c2]
        have c2b : decide ((s.length : Int) - (p : Int) < (n : Int)) = true := decide_eq_true (by omega)
        have HC1 := Aside0.mk c1; (try have HC2 := Aside0.mk c2); have HM0 := Aside0.mk hM0; have HLN := Aside0.mk hlen; have HAT := Aside0.mk hat; have HCL := Aside0.mk hcl; have HP := Aside0.mk hp; clear c1 hM0 hlen hat hcl hcp hp; (try clear c2)
        go_enter Try.func86, Try.ntmps86
        obtain ⟨AS, cS, HG, hg, HS⟩ := HI.out; have hc_0 := cellS71_0 HG; have hc_1 := cellS71_1 HG; have hc_2 := cellS71_2 HG; have hf_1 := blk_frozen HG 1; have hf_2 := blk_frozen HG 2; clear hg HG
        go_wp2_with (first | (go_at_call 98; (with_reducible refine (towlineref01_Reader_Number.calls 36 g s _ _ _ _ _ w0 _ (by repeat (first | (with_reducible first | exact HI.out | apply IsS140.alloc | apply IsS140.drewN | apply IsS140.drew | apply IsS140.set_1 | apply IsS140.set_2) | exact HI.out)) (by repeat (first | (with_reducible first | exact HB.out | apply below_alloc | apply pw_below_drewN | apply below_drew1 | refine below_set ?_ (IsS140.ge HI.out)) | exact HB.out)) HN.out).mono ?_); rintro e w4 ⟨rfl, hi, hb, hk⟩; have n0_ := Aside0.mk (KeepBut.trans (by repeat (first | (with_reducible first | exact HK.out | apply KeepBut.set_ | apply keep_drewN | apply keep_drew | apply keep_alloc) | exact HK.out)) hk (.inl rfl)); have n1_ := Aside0.mk hb; have n2_ := Aside0.mk hi; clear HK; clear HB; clear HI; have HK := n0_; have HB := n1_; have HI := n2_; clear n0_ n1_ n2_; (try clear hb); (try clear hk); (try clear hi); (try clear hc_0); (try clear hc_1); (try clear hc_2); (try clear hf_1); (try clear hf_2); (try clear HS); (try clear cS); (try clear AS); obtain ⟨AS, cS, HG, hg, HS⟩ := HI.out; have hc_0 := cellS71_0 HG; have hc_1 := cellS71_1 HG; have hc_2 := cellS71_2 HG; have hf_1 := blk_frozen HG 1; have hf_2 := blk_frozen HG 2; clear hg HG)); repeat (go_quiet (first | (go_at_call 98; (with_reducible refine (towlineref01_Reader_Number.calls 36 g s _ _ _ _ _ w0 _ (by repeat (first | (with_reducible first | exact HI.out | apply IsS140.alloc | apply IsS140.drewN | apply IsS140.drew | apply IsS140.set_1 | apply IsS140.set_2) | exact HI.out)) (by repeat (first | (with_reducible first | exact HB.out | apply below_alloc | apply pw_below_drewN | apply below_drew1 | refine below_set ?_ (IsS140.ge HI.out)) | exact HB.out)) HN.out).mono ?_); rintro e w4 ⟨rfl, hi, hb, hk⟩; have n0_ := Aside0.mk (KeepBut.trans (by repeat (first | (with_reducible first | exact HK.out | apply KeepBut.set_ | apply keep_drewN | apply keep_drew | apply keep_alloc) | exact HK.out)) hk (.inl rfl)); have n1_ := Aside0.mk hb; have n2_ := Aside0.mk hi; clear HK; clear HB; clear HI; have HK := n0_; have HB := n1_; have HI := n2_; clear n0_ n1_ n2_; (try clear hb); (try clear hk); (try clear hi); (try clear hc_0); (try clear hc_1); (try clear hc_2); (try clear hf_1); (try clear hf_2); (try clear HS); (try clear cS); (try clear AS); obtain ⟨AS, cS, HG, hg, HS⟩ := HI.out; have hc_0 := cellS71_0 HG; have hc_1 := cellS71_1 HG; have hc_2 := cellS71_2 HG; have hf_1 := blk_frozen HG 1; have hf_2 := blk_frozen HG 2; clear hg HG)); try go_wp2_with (first | (go_at_call 98; (with_reducible refine (towlineref01_Reader_Number.calls 36 g s _ _ _ _ _ w0 _ (by repeat (first | (with_reducible first | exact HI.out | apply IsS140.alloc | apply IsS140.drewN | apply IsS140.drew | apply IsS140.set_1 | apply IsS140.set_2) | exact HI.out)) (by repeat (first | (with_reducible first | exact HB.out | apply below_alloc | apply pw_below_drewN | apply below_drew1 | refine below_set ?_ (IsS140.ge HI.out)) | exact HB.out)) HN.out).mono ?_); rintro e w4 ⟨rfl, hi, hb, hk⟩; have n0_ := Aside0.mk (KeepBut.trans (by repeat (first | (with_reducible first | exact HK.out | apply KeepBut.set_ | apply keep_drewN | apply keep_drew | apply keep_alloc) | exact HK.out)) hk (.inl rfl)); have n1_ := Aside0.mk hb; have n2_ := Aside0.mk hi; clear HK; clear HB; clear HI; have HK := n0_; have HB := n1_; have HI := n2_; clear n0_ n1_ n2_; (try clear hb); (try clear hk); (try clear hi); (try clear hc_0); (try clear hc_1); (try clear hc_2); (try clear hf_1); (try clear hf_2); (try clear HS); (try clear cS); (try clear AS); obtain ⟨AS, cS, HG, hg, HS⟩ := HI.out; have hc_0 := cellS71_0 HG; have hc_1 := cellS71_1 HG; have hc_2 := cellS71_2 HG; have hf_1 := blk_frozen HG 1; have hf_2 := blk_frozen HG 2; clear hg HG)))
        go_ret
        exact ⟨_, rfl, Kd.R_nil _ _ _ _ _, by repeat (first | (with_reducible first | exact HI.out | apply IsS140.alloc | apply IsS140.drewN | apply IsS140.drew | apply IsS140.set_1 | apply IsS140.set_2) | exact HI.out), by repeat (first | (with_reducible first | exact HB.out | apply below_alloc | apply pw_below_drewN | apply below_drew1 | refine below_set ?_ (IsS140.ge HI.out)) | exact HB.out), by repeat (first | (with_reducible first | exact HK.out | apply KeepBut.set_ | apply keep_drewN | apply keep_drew | apply keep_alloc) | exact HK.out)⟩
      · rw [if_neg c2]
        have c2b : decide ((s.length : Int) - (p : Int) < (n : Int)) = false := decide_eq_false (by omega)
        obtain ⟨z, hz⟩ : ∃ z : Nat, p + n = z := ⟨_, rfl⟩
        rw [hz]
        have hw4 : wrap64 ((p : Int) + (n : Int)) = (z : Int) := wrap64_sum hz (by clear hw1 hw2 hw3; omega)
        have hw5 : wrap64 (n : Int) = (n : Int) := wrap64_nat (by clear hw1 hw2 hw3 hw4; omega)
        have hw6 : wrap64 ((z : Int) - (n : Int)) = (p : Int) := wrap64_dif hz (by clear hw1 hw2 hw3 hw4 hw5; omega)
        have HZ := Aside0.mk (show p + n = z ∧ z ≤ s.length by clear hw1 hw2 hw3 hw4 hw5 hw6; omega)
        clear hz
        have HC1 := Aside0.mk c1; (try have HC2 := Aside0.mk c2); have HM0 := Aside0.mk hM0; have HLN := Aside0.mk hlen; have HAT := Aside0.mk hat; have HCL := Aside0.mk hcl; have HP := Aside0.mk hp; clear c1 hM0 hlen hat hcl hcp hp; (try clear c2)
        go_enter Try.func86, Try.ntmps86
        obtain ⟨AS, cS, HG, hg, HS⟩ := HI.out; have hc_0 := cellS71_0 HG; have hc_1 := cellS71_1 HG; have hc_2 := cellS71_2 HG; have hf_1 := blk_frozen HG 1; have hf_2 := blk_frozen HG 2; clear hg HG
        go_wp2_with (first | (go_at_call 98; (with_reducible refine (towlineref01_Reader_Number.calls 36 g s _ _ _ _ _ w0 _ (by repeat (first | (with_reducible first | exact HI.out | apply IsS140.alloc | apply IsS140.drewN | apply IsS140.drew | apply IsS140.set_1 | apply IsS140.set_2) | exact HI.out)) (by repeat (first | (with_reducible first | exact HB.out | apply below_alloc | apply pw_below_drewN | apply below_drew1 | refine below_set ?_ (IsS140.ge HI.out)) | exact HB.out)) HN.out).mono ?_); rintro e w4 ⟨rfl, hi, hb, hk⟩; have n0_ := Aside0.mk (KeepBut.trans (by repeat (first | (with_reducible first | exact HK.out | apply KeepBut.set_ | apply keep_drewN | apply keep_drew | apply keep_alloc) | exact HK.out)) hk (.inl rfl)); have n1_ := Aside0.mk hb; have n2_ := Aside0.mk hi; clear HK; clear HB; clear HI; have HK := n0_; have HB := n1_; have HI := n2_; clear n0_ n1_ n2_; (try clear hb); (try clear hk); (try clear hi); (try clear hc_0); (try clear hc_1); (try clear hc_2); (try clear hf_1); (try clear hf_2); (try clear HS); (try clear cS); (try clear AS); obtain ⟨AS, cS, HG, hg, HS⟩ := HI.out; have hc_0 := cellS71_0 HG; have hc_1 := cellS71_1 HG; have hc_2 := cellS71_2 HG; have hf_1 := blk_frozen HG 1; have hf_2 := blk_frozen HG 2; clear hg HG)); repeat (go_quiet (first | (go_at_call 98; (with_reducible refine (towlineref01_Reader_Number.calls 36 g s _ _ _ _ _ w0 _ (by repeat (first | (with_reducible first | exact HI.out | apply IsS140.alloc | apply IsS140.drewN | apply IsS140.drew | apply IsS140.set_1 | apply IsS140.set_2) | exact HI.out)) (by repeat (first | (with_reducible first | exact HB.out | apply below_alloc | apply pw_below_drewN | apply below_drew1 | refine below_set ?_ (IsS140.ge HI.out)) | exact HB.out)) HN.out).mono ?_); rintro e w4 ⟨rfl, hi, hb, hk⟩; have n0_ := Aside0.mk (KeepBut.trans (by repeat (first | (with_reducible first | exact HK.out | apply KeepBut.set_ | apply keep_drewN | apply keep_drew | apply keep_alloc) | exact HK.out)) hk (.inl rfl)); have n1_ := Aside0.mk hb; have n2_ := Aside0.mk hi; clear HK; clear HB; clear HI; have HK := n0_; have HB := n1_; have HI := n2_; clear n0_ n1_ n2_; (try clear hb); (try clear hk); (try clear hi); (try clear hc_0); (try clear hc_1); (try clear hc_2); (try clear hf_1); (try clear hf_2); (try clear HS); (try clear cS); (try clear AS); obtain ⟨AS, cS, HG, hg, HS⟩ := HI.out; have hc_0 := cellS71_0 HG; have hc_1 := cellS71_1 HG; have hc_2 := cellS71_2 HG; have hf_1 := blk_frozen HG 1; have hf_2 := blk_frozen HG 2; clear hg HG)); try go_wp2_with (first | (go_at_call 98; (with_reducible refine (towlineref01_Reader_Number.calls 36 g s _ _ _ _ _ w0 _ (by repeat (first | (with_reducible first | exact HI.out | apply IsS140.alloc | apply IsS140.drewN | apply IsS140.drew | apply IsS140.set_1 | apply IsS140.set_2) | exact HI.out)) (by repeat (first | (with_reducible first | exact HB.out | apply below_alloc | apply pw_below_drewN | apply below_drew1 | refine below_set ?_ (IsS140.ge HI.out)) | exact HB.out)) HN.out).mono ?_); rintro e w4 ⟨rfl, hi, hb, hk⟩; have n0_ := Aside0.mk (KeepBut.trans (by repeat (first | (with_reducible first | exact HK.out | apply KeepBut.set_ | apply keep_drewN | apply keep_drew | apply keep_alloc) | exact HK.out)) hk (.inl rfl)); have n1_ := Aside0.mk hb; have n2_ := Aside0.mk hi; clear HK; clear HB; clear HI; have HK := n0_; have HB := n1_; have HI := n2_; clear n0_ n1_ n2_; (try clear hb); (try clear hk); (try clear hi); (try clear hc_0); (try clear hc_1); (try clear hc_2); (try clear hf_1); (try clear hf_2); (try clear HS); (try clear cS); (try clear AS); obtain ⟨AS, cS, HG, hg, HS⟩ := HI.out; have hc_0 := cellS71_0 HG; have hc_1 := cellS71_1 HG; have hc_2 := cellS71_2 HG; have hf_1 := blk_frozen HG 1; have hf_2 := blk_frozen HG 2; clear hg HG)))
        refine with_world (fun w' => IsS140 w0 w' g s (p : Int) 0 ∧ Below w0.heap.size w0 w' ∧ KeepBut w w' g none) ⟨by repeat (first | (with_reducible first | exact HI.out | apply IsS140.alloc | apply IsS140.drewN | apply IsS140.drew | apply IsS140.set_1 | apply IsS140.set_2) | exact HI.out), by repeat (first | (with_reducible first | exact HB.out | apply below_alloc | apply pw_below_drewN | apply below_drew1 | refine below_set ?_ (IsS140.ge HI.out)) | exact HB.out), by repeat (first | (with_reducible first | exact HK.out | apply KeepBut.set_ | apply keep_drewN | apply keep_drew | apply keep_alloc) | exact HK.out)⟩ ?_
        (try clear hc_0); (try clear hc_1); (try clear hc_2); (try clear hf_1); (try clear hf_2); (try clear HS); (try clear cS); (try clear AS)
        clear HI HB HK
        rintro w5 ⟨hI, hB, hK⟩
        have HI := Aside0.mk hI
        have HB := Aside0.mk hB
        have HK := Aside0.mk hK
        have HBB := Aside0.mk (Below.refl w5.heap.size w5)
        clear hI hB hK
        obtain ⟨AS, cS, HG, hg, HS⟩ := HI.out; have hc_0 := cellS71_0 HG; have hc_1 := cellS71_1 HG; have hc_2 := cellS71_2 HG; have hf_1 := blk_frozen HG 1; have hf_2 := blk_frozen HG 2; clear hg HG
        obtain ⟨A1, c1, hcut, hC1x, hC1l⟩ := cut_bytes AS cS s p n z HS.1 HS.2 HZ.out.1 HZ.out.2
        have HLY := Aside0.mk (show ((s.drop p).take n).length ≤ s.length by rw [List.length_take, List.length_drop]; omega)
        generalize hyy : (s.drop p).take n = y at HLY hcut hC1x hC1l
        have HYY := Aside0.mk hyy
        clear hyy
        have HC1x := Aside0.mk hC1x
        have HC1l := Aside0.mk hC1l
        clear hC1x hC1l HS
        obtain ⟨y1, Ny1⟩ : ∃ y_ : List Int, Aside0 (y_ = ([] : List Int)) := ⟨_, ⟨rfl⟩⟩
        have LMy := Aside0.mk (show y1.length + y.length < 140737488355328 by have h1 := HLN.out; have h2 := HLY.out; rw [Ny1.out]; simp only [List.length_nil]; omega)
        have Ny2 := Aside0.mk (show y = y1 ++ y by rw [Ny1.out]; rfl)
        refine start_ (n := 19) (S := fun w' => w'.cell? ⟨g, 0, none⟩ = some (.slice AS s.length cS) ∧ w'.cell? ⟨g, 1, none⟩ = some (.int .i64 (p : Int))) (ds := []) #[false, false, false, false, false, false, false, false, false, false, false, false, false, false, false, false, false, false, false] (by kernel_rfl) rfl rfl ⟨hc_0, hc_1⟩ (fun hHeld => ?_)
        refine pure_ (i := 1) (N := some 52) (v := ?_) (a' := ?_) #[false, true, false, false, false, false, false, false, false, false, false, false, false, false, false, false, false, false, false] rfl rfl (by kernel_rfl) (fun _ _ _ h => h) (Or.inl ⟨by rfl, ?_⟩) ?_ ?_
        rotate_left
        · intro w'
          go_simp
          with_reducible rfl
        rotate_left
        · simp only [Act.put, List.setIfInBounds_toArray, List.set_cons_zero, List.set_cons_succ, i64_w, i32_w]
          rfl
        refine pure_ (i := 2) (N := some 53) (v := ?_) (a' := ?_) #[false, true, true, false, false, false, false, false, false, false, false, false, false, false, false, false, false, false, false] rfl rfl (by kernel_rfl) (fun _ _ _ h => h) (Or.inl ⟨by rfl, ?_⟩) ?_ ?_
        rotate_left
        · intro w'
          go_simp
          with_reducible rfl
        rotate_left
        · simp only [Act.put, List.setIfInBounds_toArray, List.set_cons_zero, List.set_cons_succ, i64_w, i32_w]
          rfl
        refine pure_ (i := 3) (N := some 54) (v := ?_) (a' := ?_) #[false, true, true, true, false, false, false, false, false, false, false, false, false, false, false, false, false, false, false] rfl rfl (by kernel_rfl) (fun _ _ _ h => h) (Or.inl ⟨by rfl, ?_⟩) ?_ ?_
        rotate_left
        · intro w'
          go_simp
          with_reducible rfl
        rotate_left
        · simp only [Act.put, List.setIfInBounds_toArray, List.set_cons_zero, List.set_cons_succ, i64_w, i32_w]
          rfl
        refine pure_ (i := 5) (N := some 56) (v := ?_) (a' := ?_) #[false, true, true, true, false, true, false, false, false, false, false, false, false, false, false, false, false, false, false] rfl rfl (by kernel_rfl) (fun _ _ _ h => h) (Or.inl ⟨by rfl, ?_⟩) ?_ ?_
        rotate_left
        · intro w'
          go_simp
          with_reducible rfl
        rotate_left
        · simp only [Act.put, List.setIfInBounds_toArray, List.set_cons_zero, List.set_cons_succ, i64_w, i32_w]
          rfl
        refine pure_ (i := 6) (N := some 57) (v := ?_) (a' := ?_) #[false, true, true, true, false, true, true, false, false, false, false, false, false, false, false, false, false, false, false] rfl rfl (by kernel_rfl) (fun _ _ _ h => h) (Or.inl ⟨by rfl, ?_⟩) ?_ ?_
        rotate_left
        · intro w'
          go_simp
          with_reducible rfl
        rotate_left
        · simp only [Act.put, List.setIfInBounds_toArray, List.set_cons_zero, List.set_cons_succ, i64_w, i32_w]
          rfl
        refine pure_ (i := 7) (N := some 58) (v := ?_) (a' := ?_) #[false, true, true, true, false, true, true, true, false, false, false, false, false, false, false, false, false, false, false] rfl rfl (by kernel_rfl) (fun _ _ _ h => h) (Or.inl ⟨by rfl, ?_⟩) ?_ ?_
        rotate_left
        · intro w'
          go_simp
          with_reducible rfl
        rotate_left
        · simp only [Act.put, List.setIfInBounds_toArray, List.set_cons_zero, List.set_cons_succ, i64_w, i32_w]
          rfl
        refine pure_ (i := 9) (N := some 60) (v := ?_) (a' := ?_) #[false, true, true, true, false, true, true, true, false, true, false, false, false, false, false, false, false, false, false] rfl rfl (by kernel_rfl) (fun _ _ _ h => h) (Or.inl ⟨by rfl, ?_⟩) ?_ ?_
        rotate_left
        · intro w'
          go_simp
          with_reducible rfl
        rotate_left
        · simp only [Act.put, List.setIfInBounds_toArray, List.set_cons_zero, List.set_cons_succ, i64_w, i32_w]
          rfl
        refine pure_ (i := 10) (N := some 61) (v := ?_) (a' := ?_) #[false, true, true, true, false, true, true, true, false, true, true, false, false, false, false, false, false, false, false] rfl rfl (by kernel_rfl) (fun _ _ _ h => h) (Or.inl ⟨by rfl, ?_⟩) ?_ ?_
        rotate_left
        · intro w'
          go_simp
          with_reducible rfl
        rotate_left
        · simp only [Act.put, List.setIfInBounds_toArray, List.set_cons_zero, List.set_cons_succ, i64_w, i32_w]
          rfl
        refine pure_ (i := 11) (N := some 62) (v := ?_) (a' := ?_) #[false, true, true, true, false, true, true, true, false, true, true, true, false, false, false, false, false, false, false] rfl rfl (by kernel_rfl) (fun _ _ _ h => h) (Or.inl ⟨by rfl, ?_⟩) ?_ ?_
        rotate_left
        · intro w'
          go_simp
          with_reducible rfl
        rotate_left
        · simp only [Act.put, List.setIfInBounds_toArray, List.set_cons_zero, List.set_cons_succ, i64_w, i32_w]
          rfl
        refine pure_ (i := 13) (N := some 64) (v := ?_) (a' := ?_) #[false, true, true, true, false, true, true, true, false, true, true, true, false, true, false, false, false, false, false] rfl rfl (by kernel_rfl) (fun _ _ _ h => h) (Or.inl ⟨by rfl, ?_⟩) ?_ ?_
        rotate_left
        · intro w'
          go_simp
          with_reducible rfl
        rotate_left
        · simp only [Act.put, List.setIfInBounds_toArray, List.set_cons_zero, List.set_cons_succ, i64_w, i32_w]
          rfl
        refine pure_ (i := 14) (N := some 65) (v := ?_) (a' := ?_) #[false, true, true, true, false, true, true, true, false, true, true, true, false, true, true, false, false, false, false] rfl rfl (by kernel_rfl) (fun _ _ _ h => h) (Or.inl ⟨by rfl, ?_⟩) ?_ ?_
        rotate_left
        · intro w'
          go_simp
          with_reducible rfl
        rotate_left
        · simp only [Act.put, List.setIfInBounds_toArray, List.set_cons_zero, List.set_cons_succ, i64_w, i32_w]
          rfl
        refine take_ (i := 4) (N := some 55) (v := ?_) (a' := ?_) #[false, true, true, true, true, true, true, true, false, true, true, true, false, true, true, false, false, false, false] rfl rfl (by kernel_rfl) (fun _ _ _ h => h) (Or.inl ⟨by rfl, ?_⟩) hHeld ?_ ?_
        rotate_left
        · rintro w' ⟨s0, s1⟩
          go_simp
          with_reducible rfl
        rotate_left
        · simp only [Act.put, List.setIfInBounds_toArray, List.set_cons_zero, List.set_cons_succ, i64_w, i32_w]
          rfl
        refine take_ (i := 8) (N := some 59) (v := ?_) (a' := ?_) #[false, true, true, true, true, true, true, true, true, true, true, true, false, true, true, false, false, false, false] rfl rfl (by kernel_rfl) (fun _ _ _ h => h) (Or.inl ⟨by rfl, ?_⟩) hHeld ?_ ?_
        rotate_left
        · rintro w' ⟨s0, s1⟩
          go_simp
          with_reducible rfl
        rotate_left
        · simp only [Act.put, List.setIfInBounds_toArray, List.set_cons_zero, List.set_cons_succ, i64_w, i32_w]
          rfl
        refine take_ (i := 12) (N := some 63) (v := ?_) (a' := ?_) #[false, true, true, true, true, true, true, true, true, true, true, true, true, true, true, false, false, false, false] rfl rfl (by kernel_rfl) (fun _ _ _ h => h) (Or.inl ⟨by rfl, ?_⟩) hHeld ?_ ?_
        rotate_left
        · rintro w' ⟨s0, s1⟩
          go_simp
          with_reducible rfl
        rotate_left
        · simp only [Act.put, List.setIfInBounds_toArray, List.set_cons_zero, List.set_cons_succ, i64_w, i32_w]
          rfl
        refine pure_ (i := 15) (N := some 66) (v := ?_) (a' := ?_) #[false, true, true, true, true, true, true, true, true, true, true, true, true, true, true, true, false, false, false] rfl rfl (by kernel_rfl) (fun _ _ _ h => h) (Or.inl ⟨by rfl, ?_⟩) ?_ ?_
        rotate_left
        · intro w'
          go_simp
          with_reducible rfl
        rotate_left
        · simp only [Act.put, List.setIfInBounds_toArray, List.set_cons_zero, List.set_cons_succ, i64_w, i32_w]
          rfl
        refine pure_ (i := 16) (N := some 67) (v := ?_) (a' := ?_) #[false, true, true, true, true, true, true, true, true, true, true, true, true, true, true, true, true, false, false] rfl rfl (by kernel_rfl) (fun _ _ _ h => h) (Or.inl ⟨by rfl, ?_⟩) ?_ ?_
        rotate_left
        · intro w'
          go_simp
          with_reducible rfl
        rotate_left
        · simp only [Act.put, List.setIfInBounds_toArray, List.set_cons_zero, List.set_cons_succ, i64_w, i32_w]
          rfl
        refine one_ (i := 0) (N := some 51) #[true, true, true, true, true, true, true, true, true, true, true, true, true, true, true, true, true, false, false] rfl rfl (by kernel_rfl) (by decide) (fun K hK => ?_)
        refine Kd.R_lit_step (Kd.int .u8) _ 5 (by rfl) (N := 51) ?hd (xs := ([] : List Int)) (inner := []) (ok := fun k => k ≠ g) (okp := fun _ => False) ?hr ?hp (fun _ hk => hk.elim) (IsS140.fresh HI.out _ (below_size (by repeat (first | (with_reducible first | exact HBB.out | apply below_alloc | apply pw_below_drewN | apply below_drew1) | exact HBB.out)))) (Below.refl _ _) (Nat.le_refl _) (by simp) ?_
        case hd => rfl
        case hr => first | (go_simp; done) | (go_simp; rfl)
        case hp => exact (Reps.none _ _)
        intro va wa ho5 hb hg_ hnew_
        clear hg_ hnew_
        (first | rw [← Ny1.out] at ho5 | (simp only [Int.reduceToNat] at ho5; rw [← Ny1.out] at ho5))
        have n0_ := Aside0.mk (Kd.R_lower ho5 (below_size (by repeat (first | (with_reducible first | exact HBB.out | apply below_alloc | apply pw_below_drewN | apply below_drew1) | exact HBB.out))))
        have n1_ := Aside0.mk (below_step (by repeat (first | (with_reducible first | exact HBB.out | apply below_alloc | apply pw_below_drewN | apply below_drew1) | exact HBB.out)) hb)
        clear HBB
        have HOa := n0_
        have HBB := n1_
        clear n0_ n1_
        refine hK.out _ _ ⟨(hb.cell (World.block_lt_of_cell? _ _ hHeld.1)).trans hHeld.1, (hb.cell (World.block_lt_of_cell? _ _ hHeld.2)).trans hHeld.2⟩ (fun hHeld => ?_)
        clear hK K
        refine norm_ (a' := ?_) ?_ ?_
        rotate_left
        · show Act.put _ (some 51) _ = _
          simp only [Act.put, List.setIfInBounds_toArray, List.set_cons_zero, List.set_cons_succ, i64_w, i32_w]
          rfl
        refine one_ (i := 17) (N := some 68) #[true, true, true, true, true, true, true, true, true, true, true, true, true, true, true, true, true, true, false] rfl rfl (by kernel_rfl) (by decide) (fun K hK => ?_)
        refine Kd.R_append_rows_step (Kd.int .u8) (w0 := w5) w5.heap.size (by rfl) (.tmp 51) (.tmp 67) 32 5 (.int .u8 0) 1 (by rfl) Try.underlying32 info5 rfl (by decide) (by omega) va y1 y _ _ _ (fun k => k ≠ g) (fun _ => False) (by rfl) (by rfl) ?aO ?aR (fun _ _ h => h) (fun _ h => h.elim) ?aF ?aB ?aS ?aL ?_
        case aR => exact Kd.C_below (Kd.C_below HC1x.out HB.out) (by repeat (first | (with_reducible first | exact HBB.out | apply below_alloc | apply pw_below_drewN | apply below_drew1) | exact HBB.out))
        case aB => exact (by repeat (first | (with_reducible first | exact HBB.out | apply below_alloc | apply pw_below_drewN | apply below_drew1) | exact HBB.out))
        case aF => exact fun k hk => IsS140.fresh HI.out k (Nat.le_trans (below_size (by repeat (first | (with_reducible first | exact HBB.out | apply below_alloc | apply pw_below_drewN | apply below_drew1) | exact HBB.out))) hk)
        case aO => exact (by (with_reducible repeat (first | apply Kd.R_alloc | apply Kd.R_drewN | apply Kd.R_drew)); exact HOa.out)
        case aS => exact (below_size (by repeat (first | (with_reducible first | exact HBB.out | apply below_alloc | apply pw_below_drewN | apply below_drew1) | exact HBB.out)))
        case aL => have := LMy.out; omega
        intro vb w6 ho hb hg hat
        rw [← Ny2.out] at ho
        have n0_ := Aside0.mk hb
        have n1_ := Aside0.mk ho
        clear HBB HOa
        have HBB := n0_
        have HOa := n1_
        clear n0_ n1_
        refine hK.out _ _ ⟨(hb.cell (World.block_lt_of_cell? _ _ hc_0)).trans hc_0, (hb.cell (World.block_lt_of_cell? _ _ hc_1)).trans hc_1⟩ (fun hHeld => ?_)
        clear hK K
        refine norm_ (a' := ?_) ?_ ?_
        rotate_left
        · show Act.put _ (some 68) _ = _
          simp only [Act.put, List.setIfInBounds_toArray, List.set_cons_zero, List.set_cons_succ, i64_w, i32_w]
          rfl
        refine pure_ (i := 18) (N := some 7) (v := ?_) (a' := ?_) #[true, true, true, true, true, true, true, true, true, true, true, true, true, true, true, true, true, true, true] rfl rfl (by kernel_rfl) (fun _ _ _ h => h) (Or.inl ⟨by rfl, ?_⟩) ?_ ?_
        rotate_left
        · intro w'
          go_simp
          with_reducible rfl
        rotate_left
        · simp only [Act.put, List.setIfInBounds_toArray, List.set_cons_zero, List.set_cons_succ, i64_w, i32_w]
          rfl
        refine done_ (by kernel_rfl) ?_
        have HI6 := Aside0.mk (IsS140.below HI.out HBB.out)
        have HB6 := Aside0.mk (below_step HB.out HBB.out)
        have HK6 := Aside0.mk (KeepBut.trans HK.out (KeepBut.of_below HBB.out g none) (.inl rfl))
        have HR6 := Aside0.mk (Kd.R_lower HOa.out HK.out.1)
        clear HI HB HK HBB HOa
        (try clear hc_0); (try clear hc_1); (try clear hc_2); (try clear hf_1); (try clear hf_2); (try clear HS); (try clear cS); (try clear AS)
        obtain ⟨AS, cS, HG, hg, HS⟩ := HI6.out
        have hc_0 := cellS71_0 HG; have hc_1 := cellS71_1 HG; have hc_2 := cellS71_2 HG; have hf_1 := blk_frozen HG 1; have hf_2 := blk_frozen HG 2; clear hg HG HS
        go_wp2
        go_ret
        exact ⟨vb, rfl, by rw [HYY.out]; exact Kd.R_far HR6.out (fun k hk => hk) _, IsS140.set_1 HI6.out _, below_set HB6.out (IsS140.ge HI6.out), HK6.out.set_ 1 _⟩
  · replace hN : towlineref01_Reader_Number.f 36 s (at_ : Int) 0 = some (0, (at_ : Int), e) := by rw [hN]; unfold resR; rw [if_neg c0]
    have HN := Aside0.mk hN
    rw [if_pos c0]
    have c0b : (e != 0) = true := bne_iff_ne.mpr c0
    clear hN hok hmost
    go_enter Try.func86, Try.ntmps86
    obtain ⟨AS, cS, HG, hg, HS⟩ := HI.out; have hc_0 := cellS71_0 HG; have hc_1 := cellS71_1 HG; have hc_2 := cellS71_2 HG; have hf_1 := blk_frozen HG 1; have hf_2 := blk_frozen HG 2; clear hg HG
    go_wp2_with (first | (go_at_call 98; (with_reducible refine (towlineref01_Reader_Number.calls 36 g s _ _ _ _ _ w0 _ (by repeat (first | (with_reducible first | exact HI.out | apply IsS140.alloc | apply IsS140.drewN | apply IsS140.drew | apply IsS140.set_1 | apply IsS140.set_2) | exact HI.out)) (by repeat (first | (with_reducible first | exact HB.out | apply below_alloc | apply pw_below_drewN | apply below_drew1 | refine below_set ?_ (IsS140.ge HI.out)) | exact HB.out)) HN.out).mono ?_); rintro e w4 ⟨rfl, hi, hb, hk⟩; have n0_ := Aside0.mk (KeepBut.trans (by repeat (first | (with_reducible first | exact HK.out | apply KeepBut.set_ | apply keep_drewN | apply keep_drew | apply keep_alloc) | exact HK.out)) hk (.inl rfl)); have n1_ := Aside0.mk hb; have n2_ := Aside0.mk hi; clear HK; clear HB; clear HI; have HK := n0_; have HB := n1_; have HI := n2_; clear n0_ n1_ n2_; (try clear hb); (try clear hk); (try clear hi); (try clear hc_0); (try clear hc_1); (try clear hc_2); (try clear hf_1); (try clear hf_2); (try clear HS); (try clear cS); (try clear AS); obtain ⟨AS, cS, HG, hg, HS⟩ := HI.out; have hc_0 := cellS71_0 HG; have hc_1 := cellS71_1 HG; have hc_2 := cellS71_2 HG; have hf_1 := blk_frozen HG 1; have hf_2 := blk_frozen HG 2; clear hg HG)); repeat (go_quiet (first | (go_at_call 98; (with_reducible refine (towlineref01_Reader_Number.calls 36 g s _ _ _ _ _ w0 _ (by repeat (first | (with_reducible first | exact HI.out | apply IsS140.alloc | apply IsS140.drewN | apply IsS140.drew | apply IsS140.set_1 | apply IsS140.set_2) | exact HI.out)) (by repeat (first | (with_reducible first | exact HB.out | apply below_alloc | apply pw_below_drewN | apply below_drew1 | refine below_set ?_ (IsS140.ge HI.out)) | exact HB.out)) HN.out).mono ?_); rintro e w4 ⟨rfl, hi, hb, hk⟩; have n0_ := Aside0.mk (KeepBut.trans (by repeat (first | (with_reducible first | exact HK.out | apply KeepBut.set_ | apply keep_drewN | apply keep_drew | apply keep_alloc) | exact HK.out)) hk (.inl rfl)); have n1_ := Aside0.mk hb; have n2_ := Aside0.mk hi; clear HK; clear HB; clear HI; have HK := n0_; have HB := n1_; have HI := n2_; clear n0_ n1_ n2_; (try clear hb); (try clear hk); (try clear hi); (try clear hc_0); (try clear hc_1); (try clear hc_2); (try clear hf_1); (try clear hf_2); (try clear HS); (try clear cS); (try clear AS); obtain ⟨AS, cS, HG, hg, HS⟩ := HI.out; have hc_0 := cellS71_0 HG; have hc_1 := cellS71_1 HG; have hc_2 := cellS71_2 HG; have hf_1 := blk_frozen HG 1; have hf_2 := blk_frozen HG 2; clear hg HG)); try go_wp2_with (first | (go_at_call 98; (with_reducible refine (towlineref01_Reader_Number.calls 36 g s _ _ _ _ _ w0 _ (by repeat (first | (with_reducible first | exact HI.out | apply IsS140.alloc | apply IsS140.drewN | apply IsS140.drew | apply IsS140.set_1 | apply IsS140.set_2) | exact HI.out)) (by repeat (first | (with_reducible first | exact HB.out | apply below_alloc | apply pw_below_drewN | apply below_drew1 | refine below_set ?_ (IsS140.ge HI.out)) | exact HB.out)) HN.out).mono ?_); rintro e w4 ⟨rfl, hi, hb, hk⟩; have n0_ := Aside0.mk (KeepBut.trans (by repeat (first | (with_reducible first | exact HK.out | apply KeepBut.set_ | apply keep_drewN | apply keep_drew | apply keep_alloc) | exact HK.out)) hk (.inl rfl)); have n1_ := Aside0.mk hb; have n2_ := Aside0.mk hi; clear HK; clear HB; clear HI; have HK := n0_; have HB := n1_; have HI := n2_; clear n0_ n1_ n2_; (try clear hb); (try clear hk); (try clear hi); (try clear hc_0); (try clear hc_1); (try clear hc_2); (try clear hf_1); (try clear hf_2); (try clear HS); (try clear cS); (try clear AS); obtain ⟨AS, cS, HG, hg, HS⟩ := HI.out; have hc_0 := cellS71_0 HG; have hc_1 := cellS71_1 HG; have hc_2 := cellS71_2 HG; have hf_1 := blk_frozen HG 1; have hf_2 := blk_frozen HG 2; clear hg HG)))
    go_ret
    exact ⟨_, rfl, Kd.R_nil _ _ _ _ _, by repeat (first | (with_reducible first | exact HI.out | apply IsS140.alloc | apply IsS140.drewN | apply IsS140.drew | apply IsS140.set_1 | apply IsS140.set_2) | exact HI.out), by repeat (first | (with_reducible first | exact HB.out | apply below_alloc | apply pw_below_drewN | apply below_drew1 | refine below_set ?_ (IsS140.ge HI.out)) | exact HB.out), by repeat (first | (with_reducible first | exact HK.out | apply KeepBut.set_ | apply keep_drewN | apply keep_drew | apply keep_alloc) | exact HK.out)⟩
end Go.Proofs.Ytehjbhnlbjbhfaa.Wire
-- Ext
namespace Go.Proofs.Ytehjbhnlbjbhfaa.Wire
open Go Go.RowKit Go.Proofs.YtehjbhnlbjbhfaaW.PrintWords Go.Proofs.YtehjbhnlbjbhfaaW.PrintLast Go.Proofs.YtehjbhnlbjbhfaaW.PrintMore
set_option linter.unusedVariables false
def u64s (l : List Int) : Bool := l.all fun x => decide (0 ≤ x ∧ x < 18446744073709551616)
theorem u64s_iff {l : List Int} : u64s l = true ↔ ∀ x ∈ l, 0 ≤ x ∧ x < 18446744073709551616 := by simp [u64s]
theorem C_some {w : World} {A : Option Addr} {l : List Int} (h : Kd.C (Kd.int .u8) w A l.length l) : A = none → l = [] := by
  intro e
  subst e
  cases l with
  | nil => rfl
  | cons a r => obtain ⟨ad, c, e, _⟩ := Kd.C_get h (0 : Int) 0 (by decide) (by simp); cases e
theorem Put_own (A0 : Option Addr) (c0 : Nat) (l0 : List Int) (A1 : Option Addr) (c1 : Nat) (l1 : List Int) (w : World) (hr0 : Kd.C (Kd.int .u8) w A0 l0.length l0) (hc0 : l0.length ≤ c0) (hr1 : Kd.C (Kd.int .u64) w A1 l1.length l1) (hc1 : l1.length ≤ c1)
    (h1 : l1 ≠ []) (h2 : u64s l1 = true) (h3 : l0.length + 10 * l1.length < 140737488355328) :
    Calls Try.prog 77 #[.slice A0 l0.length c0, .slice A1 l1.length c1] w fun e w' => ∃ v0_ : Value, e = .returned (v0_) ∧ Kd.R (Kd.int .u8) 5 w' w.heap.size (fun _ => True) v0_ (l0 ++ encs l1) ∧ Below w.heap.size w w' := by
  refine (Put_any A0 c0 l0 A1 c1 l1 w hr0 hc0 hr1 hc1 (C_some hr0) (u64s_iff.1 h2) h3).mono ?_
  rintro e w' ⟨v, rfl, h | h, hb⟩
  · obtain ⟨_, hx, _, _⟩ := h
    exact absurd (encs_nil (List.append_cancel_left (hx.trans (List.append_nil _).symm))) h1
  · exact ⟨v, rfl, h, hb⟩
end Go.Proofs.Ytehjbhnlbjbhfaa.Wire
-- PTapePlaysx0
namespace Go.Proofs.Ytehjbhnlbjbhfaa.PTapePlays
open Go.RowKit Go.Proofs.YtehjbhnlbjbhfaaW.PrintWords Go.Proofs.YtehjbhnlbjbhfaaW.PrintLast Go.Proofs.YtehjbhnlbjbhfaaW.PrintMore
attribute [local go_sem] max2_int min2_int max_two min_two
set_option linter.unusedVariables false
set_option linter.unusedSimpArgs false
def errW : Option Int → Value
  | none => .nilIface
  | some c => .iface 0 (.int .i64 c)
theorem errW_none : errW none = .nilIface := rfl
theorem errW_some (c : Int) : errW (some c) = .iface 0 (.int .i64 c) := rfl
theorem info5 : (Try.prog.info? 5).map (fun i => (i.zero, i.size, i.bytes)) = some (some (.int .u8 0), 1, 1) := by kernel_rfl
theorem info9 : (Try.prog.info? 9).map (fun i => (i.zero, i.size, i.bytes)) = some (some (.string ⟨#[]⟩), 1, 16) := by kernel_rfl
def rd_L1 (xs : List (List Int)) (i : Int) : (List Int) := xs.getD i.toNat ([] : List Int)
theorem at_L1 {w : World} {A : Option Addr} {n : Nat} {xs : List (List Int)} (h : Kd.C (Kd.slice 5 (Kd.int .u8)) w A n xs) (i : Int) (h0 : 0 ≤ i) (h1 : i < n) : ∃ ad A0 c0, A = some ad ∧ w.cell? (ad.add i.toNat) = some (.slice A0 (rd_L1 xs i).length c0) ∧ (rd_L1 xs i).length ≤ c0 ∧ (Kd.int .u8).C w A0 (rd_L1 xs i).length (rd_L1 xs i) := by
  obtain ⟨ad, c, e, _, hK, hc0⟩ := Kd.C_get h ([] : List Int) i h0 h1
  have hc : ∀ j u, c[j]? = some u → w.cell? (ad.add (i.toNat * 1 + j)) = some u := hc0
  obtain ⟨A0, c0, rfl, l0, g0⟩ := hK
  exact ⟨ad, A0, c0, e, by have hq := hc 0 _ rfl; rwa [Nat.mul_one, Nat.add_zero] at hq, l0, g0⟩
def rd_L5 (xs : List (List (List Int))) (i : Int) : (List (List Int)) := xs.getD i.toNat ([] : List (List Int))
structure S79 where
  f0 : Int
  f1 : Int
  f2 : (List Int)
  f3 : (List (List Int))
  f4 : (List Int)
def z79 : S79 := ⟨(0 : Int), (0 : Int), ([] : List Int), ([] : List (List Int)), ([] : List Int)⟩
def k79 : Kd S79 := Kd.iso (Kd.pair (Kd.int .i64) (Kd.pair (Kd.int .i64) (Kd.pair (Kd.slice 5 (Kd.int .u8)) (Kd.pair (Kd.slice 32 (Kd.slice 5 (Kd.int .u8))) (Kd.slice 3 (Kd.int .i64)))))) (fun x : S79 => (x.f0, x.f1, x.f2, x.f3, x.f4))
theorem k79_open {w : World} {x : S79} {cs : List Value} (h : k79.K w x cs) : ∃ A2 c2 A3 c3 A4 c4, cs = [.int .i64 x.f0, .int .i64 x.f1, .slice A2 x.f2.length c2, .slice A3 x.f3.length c3, .slice A4 x.f4.length c4] ∧ x.f2.length ≤ c2 ∧ (Kd.int .u8).C w A2 x.f2.length x.f2 ∧ x.f3.length ≤ c3 ∧ (Kd.slice 5 (Kd.int .u8)).C w A3 x.f3.length x.f3 ∧ x.f4.length ≤ c4 ∧ (Kd.int .i64).C w A4 x.f4.length x.f4 := by
  obtain ⟨_, _, rfl, rfl, ⟨_, _, rfl, rfl, ⟨_, _, rfl, ⟨A2, c2, rfl, l2, g2⟩, ⟨_, _, rfl, ⟨A3, c3, rfl, l3, g3⟩, ⟨A4, c4, rfl, l4, g4⟩⟩⟩⟩⟩ := h
  exact ⟨A2, c2, A3, c3, A4, c4, rfl, l2, g2, l3, g3, l4, g4⟩
def rd_T79 (xs : List S79) (i : Int) : S79 := xs.getD i.toNat z79
theorem at_T79 {w : World} {A : Option Addr} {n : Nat} {xs : List S79} (h : Kd.C k79 w A n xs) (i : Int) (h0 : 0 ≤ i) (h1 : i < n) : ∃ ad A2 c2 A3 c3 A4 c4, A = some ad ∧ w.cell? (ad.add (i.toNat * 5)) = some (.int .i64 (rd_T79 xs i).f0) ∧ w.cell? ⟨(ad.add (i.toNat * 5)).block, (ad.add (i.toNat * 5)).off + 1, none⟩ = some (.int .i64 (rd_T79 xs i).f1) ∧ w.cell? ⟨(ad.add (i.toNat * 5)).block, (ad.add (i.toNat * 5)).off + 2, none⟩ = some (.slice A2 (rd_T79 xs i).f2.length c2) ∧ w.cell? ⟨(ad.add (i.toNat * 5)).block, (ad.add (i.toNat * 5)).off + 3, none⟩ = some (.slice A3 (rd_T79 xs i).f3.length c3) ∧ w.cell? ⟨(ad.add (i.toNat * 5)).block, (ad.add (i.toNat * 5)).off + 4, none⟩ = some (.slice A4 (rd_T79 xs i).f4.length c4) ∧ (rd_T79 xs i).f2.length ≤ c2 ∧ (Kd.int .u8).C w A2 (rd_T79 xs i).f2.length (rd_T79 xs i).f2 ∧ (rd_T79 xs i).f3.length ≤ c3 ∧ (Kd.slice 5 (Kd.int .u8)).C w A3 (rd_T79 xs i).f3.length (rd_T79 xs i).f3 ∧ (rd_T79 xs i).f4.length ≤ c4 ∧ (Kd.int .i64).C w A4 (rd_T79 xs i).f4.length (rd_T79 xs i).f4 := by
  obtain ⟨ad, c, e, _, hK, hc0⟩ := Kd.C_get h z79 i h0 h1
  have hc : ∀ j u, c[j]? = some u → w.cell? (ad.add (i.toNat * 5 + j)) = some u := hc0
  obtain ⟨A2, c2, A3, c3, A4, c4, rfl, l2, g2, l3, g3, l4, g4⟩ := k79_open hK
  exact ⟨ad, A2, c2, A3, c3, A4, c4, e, hc 0 _ rfl, by rw [← add_field _ _ 1 (by omega)]; exact hc 1 _ rfl, by rw [← add_field _ _ 2 (by omega)]; exact hc 2 _ rfl, by rw [← add_field _ _ 3 (by omega)]; exact hc 3 _ rfl, by rw [← add_field _ _ 4 (by omega)]; exact hc 4 _ rfl, l2, g2, l3, g3, l4, g4⟩
def rd_L8 (xs : List (List S79)) (i : Int) : (List S79) := xs.getD i.toNat ([] : List S79)
theorem at_L8 {w : World} {A : Option Addr} {n : Nat} {xs : List (List S79)} (h : Kd.C (Kd.slice 79 k79) w A n xs) (i : Int) (h0 : 0 ≤ i) (h1 : i < n) : ∃ ad A0 c0, A = some ad ∧ w.cell? (ad.add i.toNat) = some (.slice A0 (rd_L8 xs i).length c0) ∧ (rd_L8 xs i).length ≤ c0 ∧ k79.C w A0 (rd_L8 xs i).length (rd_L8 xs i) := by
  obtain ⟨ad, c, e, _, hK, hc0⟩ := Kd.C_get h ([] : List S79) i h0 h1
  have hc : ∀ j u, c[j]? = some u → w.cell? (ad.add (i.toNat * 1 + j)) = some u := hc0
  obtain ⟨A0, c0, rfl, l0, g0⟩ := hK
  exact ⟨ad, A0, c0, e, by have hq := hc 0 _ rfl; rwa [Nat.mul_one, Nat.add_zero] at hq, l0, g0⟩
end Go.Proofs.Ytehjbhnlbjbhfaa.PTapePlays
-- PTapePlaysx1
namespace Go.Proofs.Ytehjbhnlbjbhfaa.PTapePlays
open Go.RowKit Go.Proofs.YtehjbhnlbjbhfaaW.PrintWords Go.Proofs.YtehjbhnlbjbhfaaW.PrintLast Go.Proofs.YtehjbhnlbjbhfaaW.PrintMore
attribute [local go_sem] max2_int min2_int max_two min_two
set_option linter.unusedVariables false
set_option linter.unusedSimpArgs false
def slices_Clone_byte_byte.f (l0 : List Int) : Option (List Int) := if l0.length < 140737488355328 then some l0 else none
def wire_Put.f (l0 : List Int) (l1 : List Int) : Option (List Int) := if l1 ≠ [] ∧ Go.Proofs.Ytehjbhnlbjbhfaa.Wire.u64s l1 = true ∧ l0.length + 10 * l1.length < 140737488355328 then some (l0 ++ Go.Proofs.Ytehjbhnlbjbhfaa.Wire.encs l1) else none
theorem wire_Put.calls (A0 : Option Addr) (c0 : Nat) (l0 : List Int) (A1 : Option Addr) (c1 : Nat) (l1 : List Int) (r : List Int) (w : World) (hr0 : Kd.C (Kd.int .u8) w A0 l0.length l0) (hc0 : l0.length ≤ c0) (hr1 : Kd.C (Kd.int .u64) w A1 l1.length l1) (hc1 : l1.length ≤ c1) (h : wire_Put.f l0 l1 = some r) :
    Calls Try.prog 77 #[.slice A0 l0.length c0, .slice A1 l1.length c1] w fun e w' => ∃ v0_ : Value, e = .returned (v0_) ∧ Kd.R (Kd.int .u8) 5 w' w.heap.size (fun _ => True) v0_ r ∧ Below w.heap.size w w' := by
  unfold wire_Put.f at h
  by_cases c : l1 ≠ [] ∧ Go.Proofs.Ytehjbhnlbjbhfaa.Wire.u64s l1 = true ∧ l0.length + 10 * l1.length < 140737488355328
  · rw [if_pos c] at h
    obtain rfl := Option.some.inj h
    exact Go.Proofs.Ytehjbhnlbjbhfaa.Wire.Put_own A0 c0 l0 A1 c1 l1 w hr0 hc0 hr1 hc1 c.1 c.2.1 c.2.2
  · rw [if_neg c] at h; cases h
def wire_PutBytes.f (l0 : List Int) (l1 : List Int) : Option (List Int) := (wire_Put.f l0 (([IntKind.u64.wrap ((l1.length : Int))] : List Int))).bind fun t117 => (if t117.length + l1.length < 140737488355328 then (some (t117 ++ l1)) else (none))
set_option maxHeartbeats 8000000 in
set_option maxRecDepth 100000 in
theorem wire_PutBytes.calls (A0 : Option Addr) (c0 : Nat) (l0 : List Int) (A1 : Option Addr) (c1 : Nat) (l1 : List Int) (r : List Int) (w : World) (hr0 : Kd.C (Kd.int .u8) w A0 l0.length l0) (hc0 : l0.length ≤ c0) (hr1 : Kd.C (Kd.int .u8) w A1 l1.length l1) (hc1 : l1.length ≤ c1) (h : wire_PutBytes.f l0 l1 = some r) :
    Calls Try.prog 74 #[.slice A0 l0.length c0, .slice A1 l1.length c1] w fun e w' => ∃ v0_ : Value, e = .returned (v0_) ∧ Kd.R (Kd.int .u8) 5 w' w.heap.size (fun _ => True) v0_ r ∧ Below w.heap.size w w' := by
  have HR0 := Aside0.mk hr0
  have HC0 := Aside0.mk hc0
  clear hr0 hc0
  have HR1 := Aside0.mk hr1
  have HC1 := Aside0.mk hc1
  clear hr1 hc1
  have HB := Aside0.mk (Below.refl w.heap.size w)
  have H : ((wire_Put.f l0 (([IntKind.u64.wrap ((l1.length : Int))] : List Int))).bind fun t117 => (if t117.length + l1.length < 140737488355328 then (some (t117 ++ l1)) else (none))) = some r := h
  clear h
  obtain ⟨y114, hy114⟩ : ∃ y_ : List Int, y_ = (([IntKind.u64.wrap ((l1.length : Int))] : List Int)) := ⟨_, rfl⟩
  replace H : ((wire_Put.f l0 y114).bind fun t117 => (if t117.length + l1.length < 140737488355328 then (some (t117 ++ l1)) else (none))) = some r := by first | (rw [hy114]; with_reducible exact H) | (have H2_ := (Option.bind_some _ _).symm.trans H; rw [hy114]; with_reducible exact H2_) | (have H2_ := (Option.bind_some _ _).symm.trans H; with_reducible exact H2_) | with_reducible exact H | (rw [hy114]; exact H) | exact H
  have Ny114 := Aside0.mk hy114
  clear hy114
  replace H := Option.bind_eq_some_iff.mp H
  obtain ⟨t117, A30, H⟩ := H
  replace H : (if t117.length + l1.length < 140737488355328 then (some (t117 ++ l1)) else (none)) = some r := H
  have A3 := Aside0.mk A30
  clear A30
  by_cases c4 : t117.length + l1.length < 140737488355328
  · rw [if_pos c4] at H
    have LMc4 := Aside0.mk c4
    clear c4
    obtain ⟨y120, hy120⟩ : ∃ y_ : List Int, y_ = (t117 ++ l1) := ⟨_, rfl⟩
    replace H : (some y120) = some r := by first | (rw [hy120]; with_reducible exact H) | (have H2_ := (Option.bind_some _ _).symm.trans H; rw [hy120]; with_reducible exact H2_) | (have H2_ := (Option.bind_some _ _).symm.trans H; with_reducible exact H2_) | with_reducible exact H | (rw [hy120]; exact H) | exact H
    have Ny120 := Aside0.mk hy120
    clear hy120
    obtain rfl := Option.some.inj H
    go_enter Try.func74, Try.ntmps74
    go_wp2_with (first | ((with_reducible refine gate_dst (N := 9) rfl ?_); refine Kd.R_lit (Kd.int .u64) _ 130 ?hg (N := 9) ?hd (xs := ([IntKind.u64.wrap ((l1.length : Int))] : List Int)) (inner := [.int .u64 (IntKind.u64.wrap ((l1.length : Int)))]) (ok := fun _ => True) (okp := fun _ => True) ?hr ?hp (fun _ hk => hk) trivial (Below.refl _ _) (Nat.le_refl _) (by simp) ?_; (case hd => rfl); (case hg => rfl); (case hr => first | (go_simp; done) | (go_simp; rfl)); (case hp => exact (Reps.one (show Kd.M (Kd.int .u64) _ _ _ (IntKind.u64.wrap ((l1.length : Int))) [.int .u64 (IntKind.u64.wrap ((l1.length : Int)))] from rfl) (Reps.none _ _))); intro v115 w5 ho6 hb hg_ hnew_; clear hg_ hnew_; (first | rw [← Ny114.out] at ho6 | (simp only [Int.reduceToNat] at ho6; rw [← Ny114.out] at ho6)); have n0_ := Aside0.mk (Kd.R_lower ho6 (below_size (by repeat (first | (with_reducible first | exact HB.out | apply below_alloc | apply pw_below_drewN | apply below_drew1) | exact HB.out)))); have n1_ := Aside0.mk (below_step (by repeat (first | (with_reducible first | exact HB.out | apply below_alloc | apply pw_below_drewN | apply below_drew1) | exact HB.out)) hb); clear HB; have HO116 := n0_; have HB := n1_; clear n0_ n1_; clear hb ho6; obtain ⟨Ao7, co7, eo7⟩ := Kd.R_slice HO116.out; subst eo7) | ((with_reducible refine gate_callee (f := 77) rfl ?_); refine goesL_ (some 10) rfl rfl Try.func77 (by kernel_rfl) rfl #[.slice A0 l0.length c0, .slice Ao7 y114.length co7] rfl (by (try simp only [List.map_toArray, List.map_cons, List.map_nil]); first | done | rfl | (simp only [List.length_drop, List.length_take]; rfl)) ?_; (with_reducible refine (wire_Put.calls _ _ l0 _ _ y114 t117 _ ?side1 ?side2 ?side3 ?side4 A3.out).mono ?_); (case side1 => repeat (first | exact (Kd.C_below HR0.out HB.out) | (with_reducible refine Kd.C_alloc ?_ _) | (with_reducible refine Kd.C_drewN ?_ _) | (with_reducible refine Kd.C_drew ?_))); (case side2 => exact HC0.out); (case side3 => repeat (first | exact (Kd.R_reads' HO116.out).2.2 | (with_reducible refine Kd.C_alloc ?_ _) | (with_reducible refine Kd.C_drewN ?_ _) | (with_reducible refine Kd.C_drew ?_))); (case side4 => exact (Kd.R_reads' HO116.out).2.1); rintro e w8 ⟨v118, rfl, ho0, hb⟩; refine ⟨_, rfl, ?_⟩; have n0_ := Aside0.mk (Kd.R_below (by (with_reducible repeat (first | apply Kd.R_alloc | apply Kd.R_drewN | apply Kd.R_drew)); exact HO116.out) hb); have n1_ := Aside0.mk (Kd.R_lower ho0 (below_size (by repeat (first | (with_reducible first | exact HB.out | apply below_alloc | apply pw_below_drewN | apply below_drew1) | exact HB.out)))); have n2_ := Aside0.mk (below_step (by repeat (first | (with_reducible first | exact HB.out | apply below_alloc | apply pw_below_drewN | apply below_drew1) | exact HB.out)) hb); clear HO116; clear HB; have HO116 := n0_; have HO119 := n1_; have HB := n2_; clear n0_ n1_ n2_; (try clear hb); (try clear hb2); (try clear hk); (try clear hi); (try clear ho0)) | ((with_reducible refine gate_builtin (b := .append) (xs := #[.tmp 10, .tmp 11]) rfl ?_); at_builtin; refine Kd.R_append_rows (Kd.int .u8) (w0 := w) w.heap.size rfl (.tmp 10) (.tmp 11) 32 5 (.int .u8 0) 1 rfl Try.underlying32 info5 rfl (by decide) (by omega) v118 t117 l1 _ _ _ (fun _ => True) (fun _ => False) rfl rfl ?aO ?aR (fun _ _ h => h) (fun _ h => h.elim) ?aF ?aB ?aS ?aL ?_; (case aR => repeat (first | exact (Kd.C_below HR1.out HB.out) | (with_reducible refine Kd.C_alloc ?_ _) | (with_reducible refine Kd.C_drewN ?_ _) | (with_reducible refine Kd.C_drew ?_))); (case aB => exact (by repeat (first | (with_reducible first | exact HB.out | apply below_alloc | apply pw_below_drewN | apply below_drew1) | exact HB.out))); (case aF => exact (fun _ _ => trivial)); (case aO => exact (by (with_reducible repeat (first | apply Kd.R_alloc | apply Kd.R_drewN | apply Kd.R_drew)); exact HO119.out)); (case aS => exact (below_size (by repeat (first | (with_reducible first | exact HB.out | apply below_alloc | apply pw_below_drewN | apply below_drew1) | exact HB.out)))); (case aL => have := LMc4.out; omega); intro v121 w9 ho hb hg hat; rw [← Ny120.out] at ho; have n0_ := Aside0.mk (Kd.R_over' (by (with_reducible repeat (first | apply Kd.R_alloc | apply Kd.R_drewN | apply Kd.R_drew)); exact HO116.out) (Kd.R_typed (by (with_reducible repeat (first | apply Kd.R_alloc | apply Kd.R_drewN | apply Kd.R_drew)); exact HO119.out)) (by decide) hg); have n1_ := Aside0.mk (hb); have n2_ := Aside0.mk (ho); clear HO116; clear HB; clear HO119; have HO116 := n0_; have HB := n1_; have HO122 := n2_; clear n0_ n1_ n2_; clear ho hb hg hat))
    go_ret
    exact ⟨_, by first | rfl | (simp [errW_none, errW_some] <;> rfl) | (simp [*, errW_none, errW_some] <;> rfl), by (with_reducible repeat (first | apply Kd.R_alloc | apply Kd.R_drewN | apply Kd.R_drew)); exact HO122.out, by repeat (first | (with_reducible first | exact HB.out | apply below_alloc | apply pw_below_drewN | apply below_drew1) | exact HB.out)⟩
  · rw [if_neg c4] at H
    exact absurd H (by simp)
def wire_four.f (a0 : Int) : Option (List Int) := some (([(a0 / 16777216) % 256, (a0 / 65536) % 256, (a0 / 256) % 256, (a0) % 256] : List Int))
set_option maxHeartbeats 8000000 in
set_option maxRecDepth 100000 in
theorem wire_four.calls (a0 : Int) (r : List Int) (w : World) (h : wire_four.f a0 = some r) :
    Calls Try.prog 75 #[.int .u32 a0] w fun e w' => ∃ v0_ : Value, e = .returned (v0_) ∧ Kd.R (Kd.int .u8) 5 w' w.heap.size (fun _ => True) v0_ r ∧ Below w.heap.size w w' := by
  have HB := Aside0.mk (Below.refl w.heap.size w)
  have H : (some (([(a0 / 16777216) % 256, (a0 / 65536) % 256, (a0 / 256) % 256, (a0) % 256] : List Int))) = some r := h
  clear h
  obtain ⟨y123, hy123⟩ : ∃ y_ : List Int, y_ = (([(a0 / 16777216) % 256, (a0 / 65536) % 256, (a0 / 256) % 256, (a0) % 256] : List Int)) := ⟨_, rfl⟩
  replace H : (some y123) = some r := by first | (rw [hy123]; with_reducible exact H) | (have H2_ := (Option.bind_some _ _).symm.trans H; rw [hy123]; with_reducible exact H2_) | (have H2_ := (Option.bind_some _ _).symm.trans H; with_reducible exact H2_) | with_reducible exact H | (rw [hy123]; exact H) | exact H
  have Ny123 := Aside0.mk hy123
  clear hy123
  obtain rfl := Option.some.inj H
  go_enter Try.func75, Try.ntmps75
  go_wp2_with (first | ((with_reducible refine gate_dst (N := 14) rfl ?_); refine Kd.R_lit (Kd.int .u8) _ 5 ?hg (N := 14) ?hd (xs := ([(a0 / 16777216) % 256, (a0 / 65536) % 256, (a0 / 256) % 256, (a0) % 256] : List Int)) (inner := [.int .u8 ((a0 / 16777216) % 256), .int .u8 ((a0 / 65536) % 256), .int .u8 ((a0 / 256) % 256), .int .u8 ((a0) % 256)]) (ok := fun _ => True) (okp := fun _ => True) ?hr ?hp (fun _ hk => hk) trivial (Below.refl _ _) (Nat.le_refl _) (by simp) ?_; (case hd => rfl); (case hg => rfl); (case hr => first | (go_simp; done) | (go_simp; rfl)); (case hp => exact (Reps.one (show Kd.M (Kd.int .u8) _ _ _ ((a0 / 16777216) % 256) [.int .u8 ((a0 / 16777216) % 256)] from rfl) (Reps.one (show Kd.M (Kd.int .u8) _ _ _ ((a0 / 65536) % 256) [.int .u8 ((a0 / 65536) % 256)] from rfl) (Reps.one (show Kd.M (Kd.int .u8) _ _ _ ((a0 / 256) % 256) [.int .u8 ((a0 / 256) % 256)] from rfl) (Reps.one (show Kd.M (Kd.int .u8) _ _ _ ((a0) % 256) [.int .u8 ((a0) % 256)] from rfl) (Reps.none _ _)))))); intro v124 w2 ho3 hb hg_ hnew_; clear hg_ hnew_; (first | rw [← Ny123.out] at ho3 | (simp only [Int.reduceToNat] at ho3; rw [← Ny123.out] at ho3)); have n0_ := Aside0.mk (Kd.R_lower ho3 (below_size (by repeat (first | (with_reducible first | exact HB.out | apply below_alloc | apply pw_below_drewN | apply below_drew1) | exact HB.out)))); have n1_ := Aside0.mk (below_step (by repeat (first | (with_reducible first | exact HB.out | apply below_alloc | apply pw_below_drewN | apply below_drew1) | exact HB.out)) hb); clear HB; have HO125 := n0_; have HB := n1_; clear n0_ n1_; clear hb ho3))
  go_ret
  exact ⟨_, by first | rfl | (simp [errW_none, errW_some] <;> rfl) | (simp [*, errW_none, errW_some] <;> rfl), by (with_reducible repeat (first | apply Kd.R_alloc | apply Kd.R_drewN | apply Kd.R_drew)); exact HO125.out, by repeat (first | (with_reducible first | exact HB.out | apply below_alloc | apply pw_below_drewN | apply below_drew1) | exact HB.out)⟩
mutual
def wire_Sum.l0 : Nat → Int → List Int → Int → Int → Option (Int)
  | 0, _, _, _, _ => none
  | k + 1, x3, x7, x8, x9 => if x9 < x8 then (if 0 ≤ x9 then (if x9 < (x7.length : Int) then (wire_Sum.l1 k (Go.bits .xor .u32 x3 ((rd x7 x9) % 4294967296)) x7 x8 x9 0) else (none)) else (none)) else (some (Go.bits .xor .u32 4294967295 x3))
def wire_Sum.l1 : Nat → Int → List Int → Int → Int → Int → Option (Int)
  | 0, _, _, _, _, _ => none
  | k + 1, x3, x7, x8, x9, x17 => if x17 < 8 then (wire_Sum.l1 k (Go.bits .xor .u32 (x3 / 2) (Go.bits .and .u32 2197175160 ((-(Go.bits .and .u32 x3 1)) % 4294967296))) x7 x8 x9 (wrap64 (x17 + 1))) else (wire_Sum.l0 k x3 x7 x8 (wrap64 (x9 + 1)))
end
def wire_Sum.f (k : Nat) (l0 : List Int) : Option (Int) := wire_Sum.l0 k 4294967295 l0 (l0.length : Int) 0
set_option maxHeartbeats 8000000 in
set_option maxRecDepth 100000 in
theorem wire_Sum.calls (k : Nat) (A0 : Option Addr) (c0 : Nat) (l0 : List Int) (r : Int) (w : World) (hr0 : Kd.C (Kd.int .u8) w A0 l0.length l0) (hc0 : l0.length ≤ c0) (h : wire_Sum.f k l0 = some r) :
    Calls Try.prog 76 #[.slice A0 l0.length c0] w fun e w' => e = .returned (.int .u32 r) ∧ Drawn0 w w' := by
  have HR0 := Aside0.mk hr0
  have HC0 := Aside0.mk hc0
  clear hr0 hc0
  have H : (wire_Sum.l0 k 4294967295 l0 (l0.length : Int) 0) = some r := h
  clear h
  have H' := Aside0.mk H
  clear H
  go_enter Try.func76, Try.ntmps76
  go_wp2
  go_loopg [3, 9] k (fun kq v3 v9 w' => ∃ (x3_1 : Int) (x9_1 : Int), v3 = .int .u32 x3_1 ∧ v9 = .int .i64 x9_1 ∧ Aside0 (wire_Sum.l0 kq x3_1 l0 (l0.length : Int) x9_1 = some r) ∧ Aside0 (kq ≤ k) ∧ Drawn0 w w')
  case atStart => exact ⟨(4294967295), (0), (by first | rfl | (simp; done) | (simp [*]; done)), (by first | rfl | (simp; done) | (simp [*]; done)), H', ⟨Nat.le_refl _⟩, by repeat (first | exact Drawn0.refl _ | apply Drawn0.step)⟩
  case round =>
    clear H'
    obtain ⟨x3_1, x9_1, rfl, rfl, HA, HK1, ⟨m1, rfl⟩⟩ := hrel
    cases gk with
    | zero => exact absurd HA.out (by simp [wire_Sum.l0])
    | succ k1 =>
      have H := HA.out
      clear HA
      simp only [wire_Sum.l0] at H
      by_cases c2 : x9_1 < (l0.length : Int)
      · rw [if_pos c2] at H
        have c2b0 : decide (x9_1 < (l0.length : Int)) = true := decide_eq_true c2
        clear c2
        by_cases c3 : 0 ≤ x9_1
        · rw [if_pos c3] at H
          have c3b0 : decide (0 ≤ x9_1) = true := decide_eq_true c3
          clear c3
          by_cases c4 : x9_1 < (l0.length : Int)
          · rw [if_pos c4] at H
            have c4b0 : decide (x9_1 < (l0.length : Int)) = true := decide_eq_true c4
            clear c4
            have H' := Aside0.mk H
            clear H
            have p126 : 0 ≤ (x9_1 : Int) := of_decide_eq_true (by first | (with_reducible assumption) | assumption)
            have q126 : x9_1 < (l0.length : Int) := of_decide_eq_true (by first | (with_reducible assumption) | assumption)
            obtain ⟨ad126, e126, hx126_0⟩ := Kd.at_int HR0.out x9_1 p126 q126
            cases e126
            replace p126 := eq_true p126
            replace q126 := eq_true q126
            go_wp2
            go_loopg [3, 17] k1 (fun kq v3 v17 w' => ∃ (x3_2 : Int) (x17_2 : Int), v3 = .int .u32 x3_2 ∧ v17 = .int .i64 x17_2 ∧ Aside0 (wire_Sum.l1 kq x3_2 l0 (l0.length : Int) x9_1 x17_2 = some r) ∧ Aside0 (kq ≤ k1) ∧ Drawn0 w w')
            case atStart => exact ⟨(Go.bits .xor .u32 x3_1 ((rd l0 x9_1) % 4294967296)), (0), (by first | rfl | (simp; done) | (simp [*]; done)), (by first | rfl | (simp; done) | (simp [*]; done)), H', ⟨Nat.le_refl _⟩, by repeat (first | exact Drawn0.refl _ | apply Drawn0.step)⟩
            case round =>
              clear H'
              try clear p1
              try clear q1
              try clear hx1
              try clear c2
              try clear c2b0
              try clear p2
              try clear c3
              try clear c3b0
              try clear c4
              try clear c4b0
              try clear hx126_0
              try clear p126
              try clear q126
              obtain ⟨x3_2, x17_2, rfl, rfl, HA, HK2, ⟨m2, rfl⟩⟩ := hrel
              cases gk with
              | zero => exact absurd HA.out (by simp [wire_Sum.l1])
              | succ k2 =>
                have H := HA.out
                clear HA
                simp only [wire_Sum.l1] at H
                by_cases c5 : x17_2 < 8
                · rw [if_pos c5] at H
                  have c5b0 : decide (x17_2 < 8) = true := decide_eq_true c5
                  clear c5
                  have H' := Aside0.mk H
                  clear H
                  go_wp2
                  go_roundg k2
                  case measure => have := HK1.out; have := HK2.out; omega
                  case rel => exact ⟨(Go.bits .xor .u32 (x3_2 / 2) (Go.bits .and .u32 2197175160 ((-(Go.bits .and .u32 x3_2 1)) % 4294967296))), (wrap64 (x17_2 + 1)), (by first | rfl | (simp; done) | (simp [*]; done)), (by first | rfl | (simp; done) | (simp [*]; done)), H', ⟨by have := HK1.out; have := HK2.out; omega⟩, by repeat (first | exact Drawn0.refl _ | apply Drawn0.step)⟩
                · rw [if_neg c5] at H
                  have c5b0 : decide (x17_2 < 8) = false := decide_eq_false c5
                  clear c5
                  have H' := Aside0.mk H
                  clear H
                  go_wp2
                  go_roundg k2
                  case measure => have := HK1.out; have := HK2.out; omega
                  case rel => exact ⟨(x3_2), (wrap64 (x9_1 + 1)), (by first | rfl | (simp; done) | (simp [*]; done)), (by first | rfl | (simp; done) | (simp [*]; done)), H', ⟨by have := HK1.out; have := HK2.out; omega⟩, by repeat (first | exact Drawn0.refl _ | apply Drawn0.step)⟩
          · rw [if_neg c4] at H
            exact absurd H (by simp)
        · rw [if_neg c3] at H
          exact absurd H (by simp)
      · rw [if_neg c2] at H
        have c2b0 : decide (x9_1 < (l0.length : Int)) = false := decide_eq_false c2
        clear c2
        obtain rfl := Option.some.inj H
        go_wp2
        go_ret
        exact ⟨by first | rfl | (simp; done) | (simp [*]; done), by repeat (first | exact Drawn0.refl _ | apply Drawn0.step)⟩
def wire_Seal.f (k : Nat) (l0 : List Int) : Option (List Int × Int) := if (l0.length : Int) > 8192 then (some (([] : List Int), 4)) else ((wire_PutBytes.f ([] : List Int) l0).bind fun t127 => ((wire_Sum.f k t127).bind fun t130 => ((wire_four.f t130).bind fun t131 => (if t127.length + t131.length < 140737488355328 then (some ((t127 ++ t131), 0)) else (none)))))
set_option maxHeartbeats 8000000 in
set_option maxRecDepth 100000 in
theorem wire_Seal.calls (k : Nat) (A0 : Option Addr) (c0 : Nat) (l0 : List Int) (r1 : List Int) (r2 : Int) (w : World) (hr0 : Kd.C (Kd.int .u8) w A0 l0.length l0) (hc0 : l0.length ≤ c0) (h : wire_Seal.f k l0 = some (r1, r2)) :
    Calls Try.prog 61 #[.slice A0 l0.length c0] w fun e w' => ∃ v0_ : Value, e = .returned (.tuple #[v0_, .int .i64 r2]) ∧ Kd.R (Kd.int .u8) 5 w' w.heap.size (fun _ => True) v0_ r1 ∧ Below w.heap.size w w' := by
  have HR0 := Aside0.mk hr0
  have HC0 := Aside0.mk hc0
  clear hr0 hc0
  have HB := Aside0.mk (Below.refl w.heap.size w)
  have H : (if (l0.length : Int) > 8192 then (some (([] : List Int), 4)) else ((wire_PutBytes.f ([] : List Int) l0).bind fun t127 => ((wire_Sum.f k t127).bind fun t130 => ((wire_four.f t130).bind fun t131 => (if t127.length + t131.length < 140737488355328 then (some ((t127 ++ t131), 0)) else (none)))))) = some (r1, r2) := h
  clear h
  by_cases c2 : (l0.length : Int) > 8192
  · rw [if_pos c2] at H
    have c2b0 : decide (8192 < (l0.length : Int)) = true := decide_eq_true c2
    have c2b1 : decide (8192 < l0.length) = true := decide_eq_true (by omega)
    clear c2
    simp only [Option.some.injEq, Prod.mk.injEq] at H
    obtain ⟨rfl, rfl⟩ := H
    go_enter Try.func61, Try.ntmps61
    go_wp2
    go_ret2
    exact ⟨_, by first | rfl | (simp [errW_none, errW_some] <;> rfl) | (simp [*, errW_none, errW_some] <;> rfl), by first | exact Kd.R_nil _ _ _ _ _ | exact Kd.N_nil _ _ _ _ _ | exact Kd.V_nil _ _ _ _ _ | exact Kd.Q_nil _ _ _ _ _ | exact Kd.S_nil _ _ _ _ _, by repeat (first | (with_reducible first | exact HB.out | apply below_alloc | apply pw_below_drewN | apply below_drew1) | exact HB.out)⟩
  · rw [if_neg c2] at H
    have c2b0 : decide (8192 < (l0.length : Int)) = false := decide_eq_false c2
    have c2b1 : decide (8192 < l0.length) = false := decide_eq_false (by omega)
    clear c2
    replace H := Option.bind_eq_some_iff.mp H
    obtain ⟨t127, A30, H⟩ := H
    replace H : ((wire_Sum.f k t127).bind fun t130 => ((wire_four.f t130).bind fun t131 => (if t127.length + t131.length < 140737488355328 then (some ((t127 ++ t131), 0)) else (none)))) = some (r1, r2) := H
    have A3 := Aside0.mk A30
    clear A30
    replace H := Option.bind_eq_some_iff.mp H
    obtain ⟨t130, A40, H⟩ := H
    replace H : ((wire_four.f t130).bind fun t131 => (if t127.length + t131.length < 140737488355328 then (some ((t127 ++ t131), 0)) else (none))) = some (r1, r2) := H
    have A4 := Aside0.mk A40
    clear A40
    replace H := Option.bind_eq_some_iff.mp H
    obtain ⟨t131, A50, H⟩ := H
    replace H : (if t127.length + t131.length < 140737488355328 then (some ((t127 ++ t131), 0)) else (none)) = some (r1, r2) := H
    have A5 := Aside0.mk A50
    clear A50
    by_cases c6 : t127.length + t131.length < 140737488355328
    · rw [if_pos c6] at H
      have LMc6 := Aside0.mk c6
      clear c6
      obtain ⟨y134, hy134⟩ : ∃ y_ : List Int, y_ = (t127 ++ t131) := ⟨_, rfl⟩
      replace H : (some (y134, 0)) = some (r1, r2) := by first | (rw [hy134]; with_reducible exact H) | (have H2_ := (Option.bind_some _ _).symm.trans H; rw [hy134]; with_reducible exact H2_) | (have H2_ := (Option.bind_some _ _).symm.trans H; with_reducible exact H2_) | with_reducible exact H | (rw [hy134]; exact H) | exact H
      have Ny134 := Aside0.mk hy134
      clear hy134
      simp only [Option.some.injEq, Prod.mk.injEq] at H
      obtain ⟨rfl, rfl⟩ := H
      go_enter Try.func61, Try.ntmps61
      go_wp2_with (first | ((with_reducible refine gate_callee (f := 74) rfl ?_); refine goesL_ (some 9) rfl rfl Try.func74 (by kernel_rfl) rfl #[.slice none 0 0, .slice A0 l0.length c0] rfl (by (try simp only [List.map_toArray, List.map_cons, List.map_nil]); first | done | rfl | (simp only [List.length_drop, List.length_take]; rfl)) ?_; (refine (wire_PutBytes.calls _ _ ([] : List Int) _ _ l0 t127 _ ?side1 ?side2 ?side3 ?side4 A3.out).mono ?_); (case side1 => exact Kd.C_nil _ _); (case side2 => exact Nat.le_refl _); (case side3 => repeat (first | exact HR0.out | (with_reducible refine Kd.C_alloc ?_ _) | (with_reducible refine Kd.C_drewN ?_ _) | (with_reducible refine Kd.C_drew ?_))); (case side4 => exact HC0.out); rintro e w7 ⟨v128, rfl, ho0, hb⟩; refine ⟨_, rfl, ?_⟩; have n0_ := Aside0.mk (Kd.R_lower ho0 (below_size (by repeat (first | (with_reducible first | exact HB.out | apply below_alloc | apply pw_below_drewN | apply below_drew1) | exact HB.out)))); have n1_ := Aside0.mk (below_step (by repeat (first | (with_reducible first | exact HB.out | apply below_alloc | apply pw_below_drewN | apply below_drew1) | exact HB.out)) hb); clear HB; have HO129 := n0_; have HB := n1_; clear n0_ n1_; (try clear hb); (try clear hb2); (try clear hk); (try clear hi); (try clear ho0); obtain ⟨Ao8, co8, eo8⟩ := Kd.R_slice HO129.out; subst eo8) | ((with_reducible refine gate_callee (f := 76) rfl ?_); refine goesL_ (some 12) rfl rfl Try.func76 (by kernel_rfl) rfl #[.slice Ao8 t127.length co8] rfl (by (try simp only [List.map_toArray, List.map_cons, List.map_nil]); first | done | rfl | (simp only [List.length_drop, List.length_take]; rfl)) ?_; (with_reducible refine (wire_Sum.calls k _ _ t127 t130 _ ?side1 ?side2 A4.out).mono ?_); (case side1 => repeat (first | exact (Kd.R_reads' HO129.out).2.2 | (with_reducible refine Kd.C_alloc ?_ _) | (with_reducible refine Kd.C_drewN ?_ _) | (with_reducible refine Kd.C_drew ?_))); (case side2 => exact (Kd.R_reads' HO129.out).2.1); rintro e w' ⟨rfl, ⟨nd, rfl⟩⟩; refine ⟨_, rfl, ?_⟩) | ((with_reducible refine gate_callee (f := 75) rfl ?_); refine goesL_ (some 13) rfl rfl Try.func75 (by kernel_rfl) rfl #[.int .u32 t130] rfl (by (try simp only [List.map_toArray, List.map_cons, List.map_nil]); first | done | rfl | (simp only [List.length_drop, List.length_take]; rfl)) ?_; (with_reducible refine (wire_four.calls t130 t131 _ A5.out).mono ?_); rintro e w9 ⟨v132, rfl, ho0, hb⟩; refine ⟨_, rfl, ?_⟩; have n0_ := Aside0.mk (Kd.R_elder' (by (with_reducible repeat (first | apply Kd.R_alloc | apply Kd.R_drewN | apply Kd.R_drew)); exact HO129.out) (Kd.R_base ho0) hb); have n1_ := Aside0.mk (Kd.R_lower (Kd.R_new' ho0 (Kd.R_lt (by (with_reducible repeat (first | apply Kd.R_alloc | apply Kd.R_drewN | apply Kd.R_drew)); exact HO129.out))) (below_size (by repeat (first | (with_reducible first | exact HB.out | apply below_alloc | apply pw_below_drewN | apply below_drew1) | exact HB.out)))); have n2_ := Aside0.mk (below_step (by repeat (first | (with_reducible first | exact HB.out | apply below_alloc | apply pw_below_drewN | apply below_drew1) | exact HB.out)) hb); clear HO129; clear HB; have HO129 := n0_; have HO133 := n1_; have HB := n2_; clear n0_ n1_ n2_; (try clear hb); (try clear hb2); (try clear hk); (try clear hi); (try clear ho0); obtain ⟨Ao11, co11, eo11⟩ := Kd.R_slice HO133.out; subst eo11) | ((with_reducible refine gate_builtin (b := .append) (xs := #[.tmp 10, .tmp 13]) rfl ?_); at_builtin; refine Kd.R_append_rows (Kd.int .u8) (w0 := w) w.heap.size rfl (.tmp 10) (.tmp 13) 32 5 (.int .u8 0) 1 rfl Try.underlying32 info5 rfl (by decide) (by omega) (.slice Ao8 t127.length co8) t127 t131 _ _ _ (fun k_ => some k_ ≠ (.slice Ao11 t131.length co11 : Value).ownBlock) (fun _ => False) rfl rfl ?aO ?aR (fun _ _ h => h) (fun _ h => h.elim) ?aF ?aB ?aS ?aL ?_; (case aR => repeat (first | exact (Kd.R_reads' HO133.out).2.2 | (with_reducible refine Kd.C_alloc ?_ _) | (with_reducible refine Kd.C_drewN ?_ _) | (with_reducible refine Kd.C_drew ?_))); (case aB => exact (by repeat (first | (with_reducible first | exact HB.out | apply below_alloc | apply pw_below_drewN | apply below_drew1) | exact HB.out))); (case aF => exact (fun k_ hk => Kd.fresh' (Kd.R_lt (by (with_reducible repeat (first | apply Kd.R_alloc | apply Kd.R_drewN | apply Kd.R_drew)); exact HO133.out)) k_ hk)); (case aO => exact (by (with_reducible repeat (first | apply Kd.R_alloc | apply Kd.R_drewN | apply Kd.R_drew)); exact Kd.R_mono HO129.out (fun _ hk => hk.2))); (case aS => exact (below_size (by repeat (first | (with_reducible first | exact HB.out | apply below_alloc | apply pw_below_drewN | apply below_drew1) | exact HB.out)))); (case aL => have := LMc6.out; omega); intro v135 w10 ho hb hg hat; rw [← Ny134.out] at ho; have n0_ := Aside0.mk (Kd.R_after (ok := (fun _ => True)) (by (with_reducible repeat (first | apply Kd.R_alloc | apply Kd.R_drewN | apply Kd.R_drew)); exact HO133.out) hg hat); have n1_ := Aside0.mk (hb); have n2_ := Aside0.mk (ho); clear HO133; clear HB; clear HO129; have HO133 := n0_; have HB := n1_; have HO136 := n2_; clear n0_ n1_ n2_; clear ho hb hg hat))
      go_ret2
      exact ⟨_, by first | rfl | (simp [errW_none, errW_some] <;> rfl) | (simp [*, errW_none, errW_some] <;> rfl), by (with_reducible repeat (first | apply Kd.R_alloc | apply Kd.R_drewN | apply Kd.R_drew)); exact Kd.R_mono HO136.out (fun _ hk => trivial), by repeat (first | (with_reducible first | exact HB.out | apply below_alloc | apply pw_below_drewN | apply below_drew1) | exact HB.out)⟩
    · rw [if_neg c6] at H
      exact absurd H (by simp)
def tape_head.f (k : Nat) (a0 : Int) (a1 : Int) (l2 : List Int) : Option (List Int × Int) := (wire_Put.f ([] : List Int) (([IntKind.u64.wrap (a0), IntKind.u64.wrap (a1)] : List Int))).bind fun t140 => ((wire_PutBytes.f t140 l2).bind fun t143 => ((wire_Seal.f k t143).bind fun bt146 => (some (bt146.1, bt146.2))))
set_option maxHeartbeats 8000000 in
set_option maxRecDepth 100000 in
theorem tape_head.calls (k : Nat) (a0 : Int) (a1 : Int) (A2 : Option Addr) (c2 : Nat) (l2 : List Int) (r1 : List Int) (r2 : Int) (w : World) (hr2 : Kd.C (Kd.int .u8) w A2 l2.length l2) (hc2 : l2.length ≤ c2) (h : tape_head.f k a0 a1 l2 = some (r1, r2)) :
    Calls Try.prog 62 #[.int .i64 a0, .int .i64 a1, .slice A2 l2.length c2] w fun e w' => ∃ v0_ : Value, e = .returned (.tuple #[v0_, .int .i64 r2]) ∧ Kd.R (Kd.int .u8) 5 w' w.heap.size (fun _ => True) v0_ r1 ∧ Below w.heap.size w w' := by
  have HR2 := Aside0.mk hr2
  have HC2 := Aside0.mk hc2
  clear hr2 hc2
  have HB := Aside0.mk (Below.refl w.heap.size w)
  have H : ((wire_Put.f ([] : List Int) (([IntKind.u64.wrap (a0), IntKind.u64.wrap (a1)] : List Int))).bind fun t140 => ((wire_PutBytes.f t140 l2).bind fun t143 => ((wire_Seal.f k t143).bind fun bt146 => (some (bt146.1, bt146.2))))) = some (r1, r2) := h
  clear h
  obtain ⟨y137, hy137⟩ : ∃ y_ : List Int, y_ = (([IntKind.u64.wrap (a0), IntKind.u64.wrap (a1)] : List Int)) := ⟨_, rfl⟩
  replace H : ((wire_Put.f ([] : List Int) y137).bind fun t140 => ((wire_PutBytes.f t140 l2).bind fun t143 => ((wire_Seal.f k t143).bind fun bt146 => (some (bt146.1, bt146.2))))) = some (r1, r2) := by first | (rw [hy137]; with_reducible exact H) | (have H2_ := (Option.bind_some _ _).symm.trans H; rw [hy137]; with_reducible exact H2_) | (have H2_ := (Option.bind_some _ _).symm.trans H; with_reducible exact H2_) | with_reducible exact H | (rw [hy137]; exact H) | exact H
  have Ny137 := Aside0.mk hy137
  clear hy137
  replace H := Option.bind_eq_some_iff.mp H
  obtain ⟨t140, A40, H⟩ := H
  replace H : ((wire_PutBytes.f t140 l2).bind fun t143 => ((wire_Seal.f k t143).bind fun bt146 => (some (bt146.1, bt146.2)))) = some (r1, r2) := H
  have A4 := Aside0.mk A40
  clear A40
  replace H := Option.bind_eq_some_iff.mp H
  obtain ⟨t143, A50, H⟩ := H
  replace H : ((wire_Seal.f k t143).bind fun bt146 => (some (bt146.1, bt146.2))) = some (r1, r2) := H
  have A5 := Aside0.mk A50
  clear A50
  replace H := Option.bind_eq_some_iff.mp H
  obtain ⟨⟨t146, t147⟩, A60, H⟩ := H
  replace H : (some (t146, t147)) = some (r1, r2) := H
  have A6 := Aside0.mk A60
  clear A60
  simp only [Option.some.injEq, Prod.mk.injEq] at H
  obtain ⟨rfl, rfl⟩ := H
  go_enter Try.func62, Try.ntmps62
  go_wp2_with (first | ((with_reducible refine gate_dst (N := 12) rfl ?_); refine Kd.R_lit (Kd.int .u64) _ 130 ?hg (N := 12) ?hd (xs := ([IntKind.u64.wrap (a0), IntKind.u64.wrap (a1)] : List Int)) (inner := [.int .u64 (IntKind.u64.wrap (a0)), .int .u64 (IntKind.u64.wrap (a1))]) (ok := fun _ => True) (okp := fun _ => True) ?hr ?hp (fun _ hk => hk) trivial (Below.refl _ _) (Nat.le_refl _) (by simp) ?_; (case hd => rfl); (case hg => rfl); (case hr => first | (go_simp; done) | (go_simp; rfl)); (case hp => exact (Reps.one (show Kd.M (Kd.int .u64) _ _ _ (IntKind.u64.wrap (a0)) [.int .u64 (IntKind.u64.wrap (a0))] from rfl) (Reps.one (show Kd.M (Kd.int .u64) _ _ _ (IntKind.u64.wrap (a1)) [.int .u64 (IntKind.u64.wrap (a1))] from rfl) (Reps.none _ _)))); intro v138 w7 ho8 hb hg_ hnew_; clear hg_ hnew_; (first | rw [← Ny137.out] at ho8 | (simp only [Int.reduceToNat] at ho8; rw [← Ny137.out] at ho8)); have n0_ := Aside0.mk (Kd.R_lower ho8 (below_size (by repeat (first | (with_reducible first | exact HB.out | apply below_alloc | apply pw_below_drewN | apply below_drew1) | exact HB.out)))); have n1_ := Aside0.mk (below_step (by repeat (first | (with_reducible first | exact HB.out | apply below_alloc | apply pw_below_drewN | apply below_drew1) | exact HB.out)) hb); clear HB; have HO139 := n0_; have HB := n1_; clear n0_ n1_; clear hb ho8; obtain ⟨Ao9, co9, eo9⟩ := Kd.R_slice HO139.out; subst eo9) | ((with_reducible refine gate_callee (f := 77) rfl ?_); refine goesL_ (some 13) rfl rfl Try.func77 (by kernel_rfl) rfl #[.slice none 0 0, .slice Ao9 y137.length co9] rfl (by (try simp only [List.map_toArray, List.map_cons, List.map_nil]); first | done | rfl | (simp only [List.length_drop, List.length_take]; rfl)) ?_; (refine (wire_Put.calls _ _ ([] : List Int) _ _ y137 t140 _ ?side1 ?side2 ?side3 ?side4 A4.out).mono ?_); (case side1 => exact Kd.C_nil _ _); (case side2 => exact Nat.le_refl _); (case side3 => repeat (first | exact (Kd.R_reads' HO139.out).2.2 | (with_reducible refine Kd.C_alloc ?_ _) | (with_reducible refine Kd.C_drewN ?_ _) | (with_reducible refine Kd.C_drew ?_))); (case side4 => exact (Kd.R_reads' HO139.out).2.1); rintro e w10 ⟨v141, rfl, ho0, hb⟩; refine ⟨_, rfl, ?_⟩; have n0_ := Aside0.mk (Kd.R_below (by (with_reducible repeat (first | apply Kd.R_alloc | apply Kd.R_drewN | apply Kd.R_drew)); exact HO139.out) hb); have n1_ := Aside0.mk (Kd.R_lower ho0 (below_size (by repeat (first | (with_reducible first | exact HB.out | apply below_alloc | apply pw_below_drewN | apply below_drew1) | exact HB.out)))); have n2_ := Aside0.mk (below_step (by repeat (first | (with_reducible first | exact HB.out | apply below_alloc | apply pw_below_drewN | apply below_drew1) | exact HB.out)) hb); clear HO139; clear HB; have HO139 := n0_; have HO142 := n1_; have HB := n2_; clear n0_ n1_ n2_; (try clear hb); (try clear hb2); (try clear hk); (try clear hi); (try clear ho0); obtain ⟨Ao11, co11, eo11⟩ := Kd.R_slice HO142.out; subst eo11) | ((with_reducible refine gate_callee (f := 74) rfl ?_); refine goesL_ (some 15) rfl rfl Try.func74 (by kernel_rfl) rfl #[.slice Ao11 t140.length co11, .slice A2 l2.length c2] rfl (by (try simp only [List.map_toArray, List.map_cons, List.map_nil]); first | done | rfl | (simp only [List.length_drop, List.length_take]; rfl)) ?_; (with_reducible refine (wire_PutBytes.calls _ _ t140 _ _ l2 t143 _ ?side1 ?side2 ?side3 ?side4 A5.out).mono ?_); (case side1 => repeat (first | exact (Kd.R_reads' HO142.out).2.2 | (with_reducible refine Kd.C_alloc ?_ _) | (with_reducible refine Kd.C_drewN ?_ _) | (with_reducible refine Kd.C_drew ?_))); (case side2 => exact (Kd.R_reads' HO142.out).2.1); (case side3 => repeat (first | exact (Kd.C_below HR2.out HB.out) | (with_reducible refine Kd.C_alloc ?_ _) | (with_reducible refine Kd.C_drewN ?_ _) | (with_reducible refine Kd.C_drew ?_))); (case side4 => exact HC2.out); rintro e w12 ⟨v144, rfl, ho0, hb⟩; refine ⟨_, rfl, ?_⟩; have n0_ := Aside0.mk (Kd.R_below (by (with_reducible repeat (first | apply Kd.R_alloc | apply Kd.R_drewN | apply Kd.R_drew)); exact HO139.out) hb); have n1_ := Aside0.mk (Kd.R_elder' (by (with_reducible repeat (first | apply Kd.R_alloc | apply Kd.R_drewN | apply Kd.R_drew)); exact HO142.out) (Kd.R_base ho0) hb); have n2_ := Aside0.mk (Kd.R_lower (Kd.R_new' ho0 (Kd.R_lt (by (with_reducible repeat (first | apply Kd.R_alloc | apply Kd.R_drewN | apply Kd.R_drew)); exact HO142.out))) (below_size (by repeat (first | (with_reducible first | exact HB.out | apply below_alloc | apply pw_below_drewN | apply below_drew1) | exact HB.out)))); have n3_ := Aside0.mk (below_step (by repeat (first | (with_reducible first | exact HB.out | apply below_alloc | apply pw_below_drewN | apply below_drew1) | exact HB.out)) hb); clear HO139; clear HO142; clear HB; have HO139 := n0_; have HO142 := n1_; have HO145 := n2_; have HB := n3_; clear n0_ n1_ n2_ n3_; (try clear hb); (try clear hb2); (try clear hk); (try clear hi); (try clear ho0); obtain ⟨Ao13, co13, eo13⟩ := Kd.R_slice HO145.out; subst eo13) | ((with_reducible refine gate_callee (f := 61) rfl ?_); refine goesL_ (some 16) rfl rfl Try.func61 (by kernel_rfl) rfl #[.slice Ao13 t143.length co13] rfl (by (try simp only [List.map_toArray, List.map_cons, List.map_nil]); first | done | rfl | (simp only [List.length_drop, List.length_take]; rfl)) ?_; (with_reducible refine (wire_Seal.calls k _ _ t143 t146 t147 _ ?side1 ?side2 A6.out).mono ?_); (case side1 => repeat (first | exact (Kd.R_reads' HO145.out).2.2 | (with_reducible refine Kd.C_alloc ?_ _) | (with_reducible refine Kd.C_drewN ?_ _) | (with_reducible refine Kd.C_drew ?_))); (case side2 => exact (Kd.R_reads' HO145.out).2.1); rintro e w14 ⟨v148, rfl, ho0, hb⟩; refine ⟨_, rfl, ?_⟩; have n0_ := Aside0.mk (Kd.R_below (by (with_reducible repeat (first | apply Kd.R_alloc | apply Kd.R_drewN | apply Kd.R_drew)); exact HO139.out) hb); have n1_ := Aside0.mk (Kd.R_elder' (by (with_reducible repeat (first | apply Kd.R_alloc | apply Kd.R_drewN | apply Kd.R_drew)); exact HO142.out) (Kd.R_base ho0) hb); have n2_ := Aside0.mk (Kd.R_elder' (by (with_reducible repeat (first | apply Kd.R_alloc | apply Kd.R_drewN | apply Kd.R_drew)); exact HO145.out) (Kd.R_base ho0) hb); have n3_ := Aside0.mk (Kd.R_lower (Kd.R_new' (Kd.R_new' ho0 (Kd.R_lt (by (with_reducible repeat (first | apply Kd.R_alloc | apply Kd.R_drewN | apply Kd.R_drew)); exact HO142.out))) (Kd.R_lt (by (with_reducible repeat (first | apply Kd.R_alloc | apply Kd.R_drewN | apply Kd.R_drew)); exact HO145.out))) (below_size (by repeat (first | (with_reducible first | exact HB.out | apply below_alloc | apply pw_below_drewN | apply below_drew1) | exact HB.out)))); have n4_ := Aside0.mk (below_step (by repeat (first | (with_reducible first | exact HB.out | apply below_alloc | apply pw_below_drewN | apply below_drew1) | exact HB.out)) hb); clear HO139; clear HO142; clear HO145; clear HB; have HO139 := n0_; have HO142 := n1_; have HO145 := n2_; have HO149 := n3_; have HB := n4_; clear n0_ n1_ n2_ n3_ n4_; (try clear hb); (try clear hb2); (try clear hk); (try clear hi); (try clear ho0)))
  go_ret2
  exact ⟨_, by first | rfl | (simp [errW_none, errW_some] <;> rfl) | (simp [*, errW_none, errW_some] <;> rfl), by (with_reducible repeat (first | apply Kd.R_alloc | apply Kd.R_drewN | apply Kd.R_drew)); exact Kd.R_mono HO149.out (fun _ hk => trivial), by repeat (first | (with_reducible first | exact HB.out | apply below_alloc | apply pw_below_drewN | apply below_drew1) | exact HB.out)⟩
def slices_Equal_string_string.l0 : Nat → List ByteArray → List ByteArray → Int → Int → Option (Bool)
  | 0, _, _, _, _ => none
  | k + 1, x0, x1, x12, x13 => if x13 < x12 then (if 0 ≤ x13 then (if x13 < (x0.length : Int) then (if x13 < (x1.length : Int) then (if (rdOf ByteArray.empty x0 x13).toList = (rdOf ByteArray.empty x1 x13).toList then (slices_Equal_string_string.l0 k x0 x1 x12 (wrap64 (x13 + 1))) else (some false)) else (none)) else (none)) else (none)) else (some true)
def slices_Equal_string_string.f (k : Nat) (l0 : List ByteArray) (l1 : List ByteArray) : Option (Bool) := if (l0.length : Int) = (l1.length : Int) then (slices_Equal_string_string.l0 k l0 l1 (l0.length : Int) 0) else (some false)
set_option maxHeartbeats 8000000 in
set_option maxRecDepth 100000 in
theorem slices_Equal_string_string.calls (k : Nat) (A0 : Option Addr) (c0 : Nat) (l0 : List ByteArray) (A1 : Option Addr) (c1 : Nat) (l1 : List ByteArray) (r : Bool) (w : World) (hr0 : Kd.C Kd.string w A0 l0.length l0) (hc0 : l0.length ≤ c0) (hr1 : Kd.C Kd.string w A1 l1.length l1) (hc1 : l1.length ≤ c1) (h : slices_Equal_string_string.f k l0 l1 = some r) :
    Calls Try.prog 39 #[.slice A0 l0.length c0, .slice A1 l1.length c1] w fun e w' => e = .returned (.bool r) ∧ Drawn0 w w' := by
  have HR0 := Aside0.mk hr0
  have HC0 := Aside0.mk hc0
  clear hr0 hc0
  have HR1 := Aside0.mk hr1
  have HC1 := Aside0.mk hc1
  clear hr1 hc1
  have H : (if (l0.length : Int) = (l1.length : Int) then (slices_Equal_string_string.l0 k l0 l1 (l0.length : Int) 0) else (some false)) = some r := h
  clear h
  by_cases c3 : (l0.length : Int) = (l1.length : Int)
  · rw [if_pos c3] at H
    have c3b0 : ((l0.length : Int) == (l1.length : Int)) = true := beq_iff_eq.mpr c3
    have c3b1 : ((l0.length : Int) != (l1.length : Int)) = false := bne_eq_false_iff_eq.mpr c3
    have c3b2 : (l0.length == l1.length) = true := by first | simpa using c3 | (simp at c3 ⊢; omega)
    clear c3
    have H' := Aside0.mk H
    clear H
    go_enter Try.func39, Try.ntmps39
    go_wp2
    repeat (go_quiet (fail); try go_wp2)
    go_loopg [13] k (fun kq v13 w' => ∃ (x13_1 : Int), v13 = .int .i64 x13_1 ∧ Aside0 (slices_Equal_string_string.l0 kq l0 l1 (l0.length : Int) x13_1 = some r) ∧ Aside0 (kq ≤ k) ∧ Drawn0 w w')
    case atStart => exact ⟨(0), (by first | rfl | (simp; done) | (simp [*]; done)), H', ⟨Nat.le_refl _⟩, by repeat (first | exact Drawn0.refl _ | apply Drawn0.step)⟩
    case round =>
      clear H'
      try clear c1
      try clear p2
      try clear c3
      try clear c3b0
      try clear c3b1
      try clear c3b2
      obtain ⟨x13_1, rfl, HA, HK1, ⟨m1, rfl⟩⟩ := hrel
      cases gk with
      | zero => exact absurd HA.out (by simp [slices_Equal_string_string.l0])
      | succ k1 =>
        have H := HA.out
        clear HA
        simp only [slices_Equal_string_string.l0] at H
        by_cases c4 : x13_1 < (l0.length : Int)
        · rw [if_pos c4] at H
          have c4b0 : decide (x13_1 < (l0.length : Int)) = true := decide_eq_true c4
          clear c4
          by_cases c5 : 0 ≤ x13_1
          · rw [if_pos c5] at H
            have c5b0 : decide (0 ≤ x13_1) = true := decide_eq_true c5
            clear c5
            by_cases c6 : x13_1 < (l0.length : Int)
            · rw [if_pos c6] at H
              have c6b0 : decide (x13_1 < (l0.length : Int)) = true := decide_eq_true c6
              clear c6
              by_cases c7 : x13_1 < (l1.length : Int)
              · rw [if_pos c7] at H
                have c7b0 : decide (x13_1 < (l1.length : Int)) = true := decide_eq_true c7
                clear c7
                by_cases c8 : (rdOf ByteArray.empty l0 x13_1).toList = (rdOf ByteArray.empty l1 x13_1).toList
                · rw [if_pos c8] at H
                  have c8b0 : ((rdOf ByteArray.empty l0 x13_1).toList == (rdOf ByteArray.empty l1 x13_1).toList) = true := beq_iff_eq.mpr c8
                  have c8b1 : ((rdOf ByteArray.empty l0 x13_1).toList != (rdOf ByteArray.empty l1 x13_1).toList) = false := bne_eq_false_iff_eq.mpr c8
                  clear c8
                  have H' := Aside0.mk H
                  clear H
                  have p165 : 0 ≤ (x13_1 : Int) := of_decide_eq_true (by first | (with_reducible assumption) | assumption)
                  have q165 : x13_1 < (l0.length : Int) := of_decide_eq_true (by first | (with_reducible assumption) | assumption)
                  obtain ⟨ad165, e165, hx165_0⟩ := Kd.at_string HR0.out x13_1 p165 q165
                  cases e165
                  replace p165 := eq_true p165
                  replace q165 := eq_true q165
                  have p166 : 0 ≤ (x13_1 : Int) := of_decide_eq_true (by first | (with_reducible assumption) | assumption)
                  have q166 : x13_1 < (l1.length : Int) := of_decide_eq_true (by first | (with_reducible assumption) | assumption)
                  obtain ⟨ad166, e166, hx166_0⟩ := Kd.at_string HR1.out x13_1 p166 q166
                  cases e166
                  replace p166 := eq_true p166
                  replace q166 := eq_true q166
                  go_wp2
                  repeat (go_quiet (fail); try go_wp2)
                  go_roundg k1
                  case measure => have := HK1.out; omega
                  case rel => exact ⟨(wrap64 (x13_1 + 1)), (by first | rfl | (simp; done) | (simp [*]; done)), H', ⟨by have := HK1.out; omega⟩, by repeat (first | exact Drawn0.refl _ | apply Drawn0.step)⟩
                · rw [if_neg c8] at H
                  have c8b0 : ((rdOf ByteArray.empty l0 x13_1).toList == (rdOf ByteArray.empty l1 x13_1).toList) = false := beq_eq_false_iff_ne.mpr c8
                  have c8b1 : ((rdOf ByteArray.empty l0 x13_1).toList != (rdOf ByteArray.empty l1 x13_1).toList) = true := bne_iff_ne.mpr c8
                  obtain rfl := Option.some.inj H
                  have p165 : 0 ≤ (x13_1 : Int) := of_decide_eq_true (by first | (with_reducible assumption) | assumption)
                  have q165 : x13_1 < (l0.length : Int) := of_decide_eq_true (by first | (with_reducible assumption) | assumption)
                  obtain ⟨ad165, e165, hx165_0⟩ := Kd.at_string HR0.out x13_1 p165 q165
                  cases e165
                  replace p165 := eq_true p165
                  replace q165 := eq_true q165
                  have p166 : 0 ≤ (x13_1 : Int) := of_decide_eq_true (by first | (with_reducible assumption) | assumption)
                  have q166 : x13_1 < (l1.length : Int) := of_decide_eq_true (by first | (with_reducible assumption) | assumption)
                  obtain ⟨ad166, e166, hx166_0⟩ := Kd.at_string HR1.out x13_1 p166 q166
                  cases e166
                  replace p166 := eq_true p166
                  replace q166 := eq_true q166
                  go_wp2
                  repeat (go_quiet (fail); try go_wp2)
                  go_ret
                  exact ⟨by first | rfl | (simp; done) | (simp [*]; done), by repeat (first | exact Drawn0.refl _ | apply Drawn0.step)⟩
              · rw [if_neg c7] at H
                exact absurd H (by simp)
            · rw [if_neg c6] at H
              exact absurd H (by simp)
          · rw [if_neg c5] at H
            exact absurd H (by simp)
        · rw [if_neg c4] at H
          have c4b0 : decide (x13_1 < (l0.length : Int)) = false := decide_eq_false c4
          clear c4
          obtain rfl := Option.some.inj H
          go_wp2
          repeat (go_quiet (fail); try go_wp2)
          go_ret
          exact ⟨by first | rfl | (simp; done) | (simp [*]; done), by repeat (first | exact Drawn0.refl _ | apply Drawn0.step)⟩
  · rw [if_neg c3] at H
    have c3b0 : ((l0.length : Int) == (l1.length : Int)) = false := beq_eq_false_iff_ne.mpr c3
    have c3b1 : ((l0.length : Int) != (l1.length : Int)) = true := bne_iff_ne.mpr c3
    have c3b2 : (l0.length == l1.length) = false := by first | simpa using c3 | (simp at c3 ⊢; omega)
    obtain rfl := Option.some.inj H
    go_enter Try.func39, Try.ntmps39
    go_wp2
    repeat (go_quiet (fail); try go_wp2)
    go_ret
    exact ⟨by first | rfl | (simp; done) | (simp [*]; done), by repeat (first | exact Drawn0.refl _ | apply Drawn0.step)⟩
end Go.Proofs.Ytehjbhnlbjbhfaa.PTapePlays
-- PTapePlaysx2
namespace Go.Proofs.Ytehjbhnlbjbhfaa.PTapePlays
open Go.RowKit Go.Proofs.YtehjbhnlbjbhfaaW.PrintWords Go.Proofs.YtehjbhnlbjbhfaaW.PrintLast Go.Proofs.YtehjbhnlbjbhfaaW.PrintMore
attribute [local go_sem] max2_int min2_int max_two min_two
set_option linter.unusedVariables false
set_option linter.unusedSimpArgs false
mutual
def towlineref01_Put.l0 : Nat → List Int → List Int → Int → Int → Option (List Int)
  | 0, _, _, _, _ => none
  | k + 1, x5, x11, x12, x13 => if x13 < x12 then (if 0 ≤ x13 then (if x13 < (x11.length : Int) then (towlineref01_Put.l1 k x5 (rd x11 x13) x11 x12 x13 0) else (none)) else (none)) else (some x5)
def towlineref01_Put.l1 : Nat → List Int → Int → List Int → Int → Int → Int → Option (List Int)
  | 0, _, _, _, _, _, _ => none
  | k + 1, x5, x7, x11, x12, x13, x17 => if x17 < 10 then (if x7 < 128 then (if x5.length < 140737488355328 then (towlineref01_Put.l0 k (x5 ++ [(x7) % 256]) x11 x12 (wrap64 (x13 + 1))) else (none)) else (if x5.length < 140737488355328 then (towlineref01_Put.l1 k (x5 ++ [(IntKind.u64.wrap (128 + (Int.tmod x7 128))) % 256]) (IntKind.u64.wrap (Int.tdiv x7 128)) x11 x12 x13 (wrap64 (x17 + 1))) else (none))) else (if x5.length < 140737488355328 then (towlineref01_Put.l0 k (x5 ++ [(x7) % 256]) x11 x12 (wrap64 (x13 + 1))) else (none))
end
def towlineref01_Put.f (k : Nat) (l0 : List Int) (l1 : List Int) : Option (List Int) := (some (([] : List Int) : List Int)).bind fun y167 => (if y167.length + l0.length < 140737488355328 then (towlineref01_Put.l0 k (y167 ++ l0) l1 (l1.length : Int) 0) else (none))
set_option maxHeartbeats 8000000 in
set_option maxRecDepth 100000 in
theorem towlineref01_Put.calls (k : Nat) (A0 : Option Addr) (c0 : Nat) (l0 : List Int) (A1 : Option Addr) (c1 : Nat) (l1 : List Int) (r : List Int) (w : World) (hr0 : Kd.C (Kd.int .u8) w A0 l0.length l0) (hc0 : l0.length ≤ c0) (hr1 : Kd.C (Kd.int .u64) w A1 l1.length l1) (hc1 : l1.length ≤ c1) (h : towlineref01_Put.f k l0 l1 = some r) :
    Calls Try.prog 90 #[.slice A0 l0.length c0, .slice A1 l1.length c1] w fun e w' => ∃ v0_ : Value, e = .returned (v0_) ∧ Kd.R (Kd.int .u8) 5 w' w.heap.size (fun _ => True) v0_ r ∧ Below w.heap.size w w' := by
  have HR0 := Aside0.mk hr0
  have HC0 := Aside0.mk hc0
  clear hr0 hc0
  have HR1 := Aside0.mk hr1
  have HC1 := Aside0.mk hc1
  clear hr1 hc1
  have HB := Aside0.mk (Below.refl w.heap.size w)
  have H : ((some (([] : List Int) : List Int)).bind fun y167 => (if y167.length + l0.length < 140737488355328 then (towlineref01_Put.l0 k (y167 ++ l0) l1 (l1.length : Int) 0) else (none))) = some r := h
  clear h
  obtain ⟨y167, hy167⟩ : ∃ y_ : List Int, y_ = (([] : List Int)) := ⟨_, rfl⟩
  replace H : (if y167.length + l0.length < 140737488355328 then (towlineref01_Put.l0 k (y167 ++ l0) l1 (l1.length : Int) 0) else (none)) = some r := by first | (rw [hy167]; with_reducible exact H) | (have H2_ := (Option.bind_some _ _).symm.trans H; rw [hy167]; with_reducible exact H2_) | (have H2_ := (Option.bind_some _ _).symm.trans H; with_reducible exact H2_) | with_reducible exact H | (rw [hy167]; exact H) | exact H
  have Ny167 := Aside0.mk hy167
  clear hy167
  by_cases c3 : y167.length + l0.length < 140737488355328
  · rw [if_pos c3] at H
    have LMc3 := Aside0.mk c3
    clear c3
    obtain ⟨y170, hy170⟩ : ∃ y_ : List Int, y_ = (y167 ++ l0) := ⟨_, rfl⟩
    replace H : (towlineref01_Put.l0 k y170 l1 (l1.length : Int) 0) = some r := by first | (rw [hy170]; with_reducible exact H) | (have H2_ := (Option.bind_some _ _).symm.trans H; rw [hy170]; with_reducible exact H2_) | (have H2_ := (Option.bind_some _ _).symm.trans H; with_reducible exact H2_) | with_reducible exact H | (rw [hy170]; exact H) | exact H
    have Ny170 := Aside0.mk hy170
    clear hy170
    have H' := Aside0.mk H
    clear H
    go_enter Try.func90, Try.ntmps90
    go_wp2_with (first | ((with_reducible refine gate_dst (N := 8) rfl ?_); refine Kd.R_lit (Kd.int .u8) _ 5 ?hg (N := 8) ?hd (xs := ([] : List Int)) (inner := []) (ok := fun _ => True) (okp := fun _ => True) ?hr ?hp (fun _ hk => hk) trivial (Below.refl _ _) (Nat.le_refl _) (by simp) ?_; (case hd => rfl); (case hg => rfl); (case hr => first | (go_simp; done) | (go_simp; rfl)); (case hp => exact (Reps.none _ _)); intro v168 w4 ho5 hb hg_ hnew_; clear hg_ hnew_; (first | rw [← Ny167.out] at ho5 | (simp only [Int.reduceToNat] at ho5; rw [← Ny167.out] at ho5)); have n0_ := Aside0.mk (Kd.R_lower ho5 (below_size (by repeat (first | (with_reducible first | exact HB.out | apply below_alloc | apply pw_below_drewN | apply below_drew1) | exact HB.out)))); have n1_ := Aside0.mk (below_step (by repeat (first | (with_reducible first | exact HB.out | apply below_alloc | apply pw_below_drewN | apply below_drew1) | exact HB.out)) hb); clear HB; have HO169 := n0_; have HB := n1_; clear n0_ n1_; clear hb ho5) | ((with_reducible refine gate_builtin (b := .append) (xs := #[.tmp 8, .tmp 9]) rfl ?_); at_builtin; refine Kd.R_append_rows (Kd.int .u8) (w0 := w) w.heap.size rfl (.tmp 8) (.tmp 9) 32 5 (.int .u8 0) 1 rfl Try.underlying32 info5 rfl (by decide) (by omega) v168 y167 l0 _ _ _ (fun _ => True) (fun _ => False) rfl rfl ?aO ?aR (fun _ _ h => h) (fun _ h => h.elim) ?aF ?aB ?aS ?aL ?_; (case aR => repeat (first | exact (Kd.C_below HR0.out HB.out) | (with_reducible refine Kd.C_alloc ?_ _) | (with_reducible refine Kd.C_drewN ?_ _) | (with_reducible refine Kd.C_drew ?_))); (case aB => exact (by repeat (first | (with_reducible first | exact HB.out | apply below_alloc | apply pw_below_drewN | apply below_drew1) | exact HB.out))); (case aF => exact (fun _ _ => trivial)); (case aO => exact (by (with_reducible repeat (first | apply Kd.R_alloc | apply Kd.R_drewN | apply Kd.R_drew)); exact HO169.out)); (case aS => exact (below_size (by repeat (first | (with_reducible first | exact HB.out | apply below_alloc | apply pw_below_drewN | apply below_drew1) | exact HB.out)))); (case aL => have := LMc3.out; omega); intro v171 w6 ho hb hg hat; rw [← Ny170.out] at ho; have n0_ := Aside0.mk (hb); have n1_ := Aside0.mk (ho); clear HB; clear HO169; have HB := n0_; have HO172 := n1_; clear n0_ n1_; clear ho hb hg hat))
    go_loopg [5, 13] k (fun kq v5 v13 w' => ∃ (x5_1 : List Int) (x13_1 : Int), v13 = .int .i64 x13_1 ∧ Aside0 (towlineref01_Put.l0 kq x5_1 l1 (l1.length : Int) x13_1 = some r) ∧ Aside0 (kq ≤ k) ∧ Aside0 (Kd.R (Kd.int .u8) 5 w' w.heap.size (fun _ => True) v5 x5_1) ∧ Aside0 (Below w.heap.size w w'))
    case atStart => exact ⟨(y170), (0), (by first | rfl | (simp; done) | (simp [*]; done)), H', ⟨Nat.le_refl _⟩, ⟨by (with_reducible repeat (first | apply Kd.R_alloc | apply Kd.R_drewN | apply Kd.R_drew)); exact HO172.out⟩, ⟨by repeat (first | (with_reducible first | exact HB.out | apply below_alloc | apply pw_below_drewN | apply below_drew1) | exact HB.out)⟩⟩
    case round =>
      clear H'
      try clear c1
      try clear p2
      try clear c3
      obtain ⟨x5_1, x13_1, rfl, HA, HK1, HO_5, HB⟩ := hrel
      cases gk with
      | zero => exact absurd HA.out (by simp [towlineref01_Put.l0])
      | succ k1 =>
        have H := HA.out
        clear HA
        simp only [towlineref01_Put.l0] at H
        by_cases c7 : x13_1 < (l1.length : Int)
        · rw [if_pos c7] at H
          have c7b0 : decide (x13_1 < (l1.length : Int)) = true := decide_eq_true c7
          clear c7
          by_cases c8 : 0 ≤ x13_1
          · rw [if_pos c8] at H
            have c8b0 : decide (0 ≤ x13_1) = true := decide_eq_true c8
            clear c8
            by_cases c9 : x13_1 < (l1.length : Int)
            · rw [if_pos c9] at H
              have c9b0 : decide (x13_1 < (l1.length : Int)) = true := decide_eq_true c9
              clear c9
              have H' := Aside0.mk H
              clear H
              have p173 : 0 ≤ (x13_1 : Int) := of_decide_eq_true (by first | (with_reducible assumption) | assumption)
              have q173 : x13_1 < (l1.length : Int) := of_decide_eq_true (by first | (with_reducible assumption) | assumption)
              obtain ⟨ad173, e173, hx173_0⟩ := Kd.at_int HR1.out x13_1 p173 q173
              cases e173
              replace hx173_0 := (HB.out.cell (World.block_lt_of_cell? w _ hx173_0)).trans hx173_0
              replace p173 := eq_true p173
              replace q173 := eq_true q173
              go_wp2
              go_loopg [5, 7, 17] k1 (fun kq v5 v7 v17 w' => ∃ (x5_2 : List Int) (x7_2 : Int) (x17_2 : Int), v7 = .int .u64 x7_2 ∧ v17 = .int .i64 x17_2 ∧ Aside0 (towlineref01_Put.l1 kq x5_2 x7_2 l1 (l1.length : Int) x13_1 x17_2 = some r) ∧ Aside0 (kq ≤ k1) ∧ Aside0 (Kd.R (Kd.int .u8) 5 w' w.heap.size (fun _ => True) v5 x5_2) ∧ Aside0 (Below w.heap.size w w'))
              case atStart => exact ⟨(x5_1), (rd l1 x13_1), (0), (by first | rfl | (simp; done) | (simp [*]; done)), (by first | rfl | (simp; done) | (simp [*]; done)), H', ⟨Nat.le_refl _⟩, ⟨by (with_reducible repeat (first | apply Kd.R_alloc | apply Kd.R_drewN | apply Kd.R_drew)); exact HO_5.out⟩, ⟨by repeat (first | (with_reducible first | exact HB.out | apply below_alloc | apply pw_below_drewN | apply below_drew1) | exact HB.out)⟩⟩
              case round =>
                clear H'
                try clear c1
                try clear p1
                try clear q1
                try clear hx1
                try clear p2
                try clear c3
                try clear c7
                try clear c7b0
                try clear c8
                try clear c8b0
                try clear c9
                try clear c9b0
                try clear hx173_0
                try clear p173
                try clear p2
                try clear q173
                obtain ⟨x5_2, x7_2, x17_2, rfl, rfl, HA, HK2, HO_5, HB⟩ := hrel
                cases gk with
                | zero => exact absurd HA.out (by simp [towlineref01_Put.l1])
                | succ k2 =>
                  have H := HA.out
                  clear HA
                  simp only [towlineref01_Put.l1] at H
                  by_cases c10 : x17_2 < 10
                  · rw [if_pos c10] at H
                    have c10b0 : decide (x17_2 < 10) = true := decide_eq_true c10
                    clear c10
                    by_cases c11 : x7_2 < 128
                    · rw [if_pos c11] at H
                      have c11b0 : decide (x7_2 < 128) = true := decide_eq_true c11
                      clear c11
                      by_cases c12 : x5_2.length < 140737488355328
                      · rw [if_pos c12] at H
                        have LMc12 := Aside0.mk c12
                        clear c12
                        obtain ⟨y174, hy174⟩ : ∃ y_ : List Int, y_ = (x5_2 ++ [(x7_2) % 256]) := ⟨_, rfl⟩
                        replace H : (towlineref01_Put.l0 k2 y174 l1 (l1.length : Int) (wrap64 (x13_1 + 1))) = some r := by first | (rw [hy174]; with_reducible exact H) | (have H2_ := (Option.bind_some _ _).symm.trans H; rw [hy174]; with_reducible exact H2_) | (have H2_ := (Option.bind_some _ _).symm.trans H; with_reducible exact H2_) | with_reducible exact H | (rw [hy174]; exact H) | exact H
                        have Ny174 := Aside0.mk hy174
                        clear hy174
                        have H' := Aside0.mk H
                        clear H
                        go_wp2_with (first | ((with_reducible refine gate_builtin (b := .append) (xs := #[.tmp 31, .tmp 34]) rfl ?_); at_builtin; refine Kd.R_append (Kd.int .u8) (w0 := w) w.heap.size rfl (.tmp 31) (.tmp 34) 32 5 (.int .u8 0) 1 rfl Try.underlying32 info5 rfl (by decide) (by omega) u5 x5_2 ((x7_2) % 256) [.int .u8 ((x7_2) % 256)] (fun _ => True) (fun _ => False) rfl rfl ?aP (fun _ hk => hk.elim) ?aF ?aO ?aB ?aS ?aL ?_; (case aP => exact rfl); (case aB => exact (by repeat (first | (with_reducible first | exact HB.out | apply below_alloc | apply pw_below_drewN | apply below_drew1) | exact HB.out))); (case aF => exact (fun _ _ => trivial)); (case aO => exact (by (with_reducible repeat (first | apply Kd.R_alloc | apply Kd.R_drewN | apply Kd.R_drew)); exact HO_5.out)); (case aS => exact (below_size (by repeat (first | (with_reducible first | exact HB.out | apply below_alloc | apply pw_below_drewN | apply below_drew1) | exact HB.out)))); (case aL => have := LMc12.out; omega); intro v175 w13 ho hb hg hat; rw [← Ny174.out] at ho; have n0_ := Aside0.mk (hb); have n1_ := Aside0.mk (ho); clear HB; clear HO_5; have HB := n0_; have HO176 := n1_; clear n0_ n1_; clear ho hb hg hat))
                        go_roundg k2
                        case measure => have := HK1.out; have := HK2.out; omega
                        case rel => exact ⟨(y174), (wrap64 (x13_1 + 1)), (by first | rfl | (simp; done) | (simp [*]; done)), H', ⟨by have := HK1.out; have := HK2.out; omega⟩, ⟨by (with_reducible repeat (first | apply Kd.R_alloc | apply Kd.R_drewN | apply Kd.R_drew)); exact HO176.out⟩, ⟨by repeat (first | (with_reducible first | exact HB.out | apply below_alloc | apply pw_below_drewN | apply below_drew1) | exact HB.out)⟩⟩
                      · rw [if_neg c12] at H
                        exact absurd H (by simp)
                    · rw [if_neg c11] at H
                      have c11b0 : decide (x7_2 < 128) = false := decide_eq_false c11
                      clear c11
                      by_cases c14 : x5_2.length < 140737488355328
                      · rw [if_pos c14] at H
                        have LMc14 := Aside0.mk c14
                        clear c14
                        obtain ⟨y177, hy177⟩ : ∃ y_ : List Int, y_ = (x5_2 ++ [(IntKind.u64.wrap (128 + (Int.tmod x7_2 128))) % 256]) := ⟨_, rfl⟩
                        replace H : (towlineref01_Put.l1 k2 y177 (IntKind.u64.wrap (Int.tdiv x7_2 128)) l1 (l1.length : Int) x13_1 (wrap64 (x17_2 + 1))) = some r := by first | (rw [hy177]; with_reducible exact H) | (have H2_ := (Option.bind_some _ _).symm.trans H; rw [hy177]; with_reducible exact H2_) | (have H2_ := (Option.bind_some _ _).symm.trans H; with_reducible exact H2_) | with_reducible exact H | (rw [hy177]; exact H) | exact H
                        have Ny177 := Aside0.mk hy177
                        clear hy177
                        have H' := Aside0.mk H
                        clear H
                        go_wp2_with (first | ((with_reducible refine gate_builtin (b := .append) (xs := #[.tmp 21, .tmp 26]) rfl ?_); at_builtin; refine Kd.R_append (Kd.int .u8) (w0 := w) w.heap.size rfl (.tmp 21) (.tmp 26) 32 5 (.int .u8 0) 1 rfl Try.underlying32 info5 rfl (by decide) (by omega) u5 x5_2 ((IntKind.u64.wrap (128 + (Int.tmod x7_2 128))) % 256) [.int .u8 ((IntKind.u64.wrap (128 + (Int.tmod x7_2 128))) % 256)] (fun _ => True) (fun _ => False) rfl rfl ?aP (fun _ hk => hk.elim) ?aF ?aO ?aB ?aS ?aL ?_; (case aP => exact rfl); (case aB => exact (by repeat (first | (with_reducible first | exact HB.out | apply below_alloc | apply pw_below_drewN | apply below_drew1) | exact HB.out))); (case aF => exact (fun _ _ => trivial)); (case aO => exact (by (with_reducible repeat (first | apply Kd.R_alloc | apply Kd.R_drewN | apply Kd.R_drew)); exact HO_5.out)); (case aS => exact (below_size (by repeat (first | (with_reducible first | exact HB.out | apply below_alloc | apply pw_below_drewN | apply below_drew1) | exact HB.out)))); (case aL => have := LMc14.out; omega); intro v178 w15 ho hb hg hat; rw [← Ny177.out] at ho; have n0_ := Aside0.mk (hb); have n1_ := Aside0.mk (ho); clear HB; clear HO_5; have HB := n0_; have HO179 := n1_; clear n0_ n1_; clear ho hb hg hat))
                        go_roundg k2
                        case measure => have := HK1.out; have := HK2.out; omega
                        case rel => exact ⟨(y177), (IntKind.u64.wrap (Int.tdiv x7_2 128)), (wrap64 (x17_2 + 1)), (by first | rfl | (simp; done) | (simp [*]; done)), (by first | rfl | (simp; done) | (simp [*]; done)), H', ⟨by have := HK1.out; have := HK2.out; omega⟩, ⟨by (with_reducible repeat (first | apply Kd.R_alloc | apply Kd.R_drewN | apply Kd.R_drew)); exact HO179.out⟩, ⟨by repeat (first | (with_reducible first | exact HB.out | apply below_alloc | apply pw_below_drewN | apply below_drew1) | exact HB.out)⟩⟩
                      · rw [if_neg c14] at H
                        exact absurd H (by simp)
                  · rw [if_neg c10] at H
                    have c10b0 : decide (x17_2 < 10) = false := decide_eq_false c10
                    clear c10
                    by_cases c16 : x5_2.length < 140737488355328
                    · rw [if_pos c16] at H
                      have LMc16 := Aside0.mk c16
                      clear c16
                      obtain ⟨y180, hy180⟩ : ∃ y_ : List Int, y_ = (x5_2 ++ [(x7_2) % 256]) := ⟨_, rfl⟩
                      replace H : (towlineref01_Put.l0 k2 y180 l1 (l1.length : Int) (wrap64 (x13_1 + 1))) = some r := by first | (rw [hy180]; with_reducible exact H) | (have H2_ := (Option.bind_some _ _).symm.trans H; rw [hy180]; with_reducible exact H2_) | (have H2_ := (Option.bind_some _ _).symm.trans H; with_reducible exact H2_) | with_reducible exact H | (rw [hy180]; exact H) | exact H
                      have Ny180 := Aside0.mk hy180
                      clear hy180
                      have H' := Aside0.mk H
                      clear H
                      go_wp2_with (first | ((with_reducible refine gate_builtin (b := .append) (xs := #[.tmp 31, .tmp 34]) rfl ?_); at_builtin; refine Kd.R_append (Kd.int .u8) (w0 := w) w.heap.size rfl (.tmp 31) (.tmp 34) 32 5 (.int .u8 0) 1 rfl Try.underlying32 info5 rfl (by decide) (by omega) u5 x5_2 ((x7_2) % 256) [.int .u8 ((x7_2) % 256)] (fun _ => True) (fun _ => False) rfl rfl ?aP (fun _ hk => hk.elim) ?aF ?aO ?aB ?aS ?aL ?_; (case aP => exact rfl); (case aB => exact (by repeat (first | (with_reducible first | exact HB.out | apply below_alloc | apply pw_below_drewN | apply below_drew1) | exact HB.out))); (case aF => exact (fun _ _ => trivial)); (case aO => exact (by (with_reducible repeat (first | apply Kd.R_alloc | apply Kd.R_drewN | apply Kd.R_drew)); exact HO_5.out)); (case aS => exact (below_size (by repeat (first | (with_reducible first | exact HB.out | apply below_alloc | apply pw_below_drewN | apply below_drew1) | exact HB.out)))); (case aL => have := LMc16.out; omega); intro v181 w17 ho hb hg hat; rw [← Ny180.out] at ho; have n0_ := Aside0.mk (hb); have n1_ := Aside0.mk (ho); clear HB; clear HO_5; have HB := n0_; have HO182 := n1_; clear n0_ n1_; clear ho hb hg hat))
                      go_roundg k2
                      case measure => have := HK1.out; have := HK2.out; omega
                      case rel => exact ⟨(y180), (wrap64 (x13_1 + 1)), (by first | rfl | (simp; done) | (simp [*]; done)), H', ⟨by have := HK1.out; have := HK2.out; omega⟩, ⟨by (with_reducible repeat (first | apply Kd.R_alloc | apply Kd.R_drewN | apply Kd.R_drew)); exact HO182.out⟩, ⟨by repeat (first | (with_reducible first | exact HB.out | apply below_alloc | apply pw_below_drewN | apply below_drew1) | exact HB.out)⟩⟩
                    · rw [if_neg c16] at H
                      exact absurd H (by simp)
            · rw [if_neg c9] at H
              exact absurd H (by simp)
          · rw [if_neg c8] at H
            exact absurd H (by simp)
        · rw [if_neg c7] at H
          have c7b0 : decide (x13_1 < (l1.length : Int)) = false := decide_eq_false c7
          clear c7
          obtain rfl := Option.some.inj H
          go_wp2
          go_ret
          exact ⟨_, by first | rfl | (simp [errW_none, errW_some] <;> rfl) | (simp [*, errW_none, errW_some] <;> rfl), by (with_reducible repeat (first | apply Kd.R_alloc | apply Kd.R_drewN | apply Kd.R_drew)); exact HO_5.out, by repeat (first | (with_reducible first | exact HB.out | apply below_alloc | apply pw_below_drewN | apply below_drew1) | exact HB.out)⟩
  · rw [if_neg c3] at H
    exact absurd H (by simp)
def towlineref01_Bytes.f (k : Nat) (l0 : List Int) (l1 : List Int) : Option (List Int) := (towlineref01_Put.f k l0 (([IntKind.u64.wrap ((l1.length : Int))] : List Int))).bind fun t186 => (if t186.length + l1.length < 140737488355328 then (some (t186 ++ l1)) else (none))
set_option maxHeartbeats 8000000 in
set_option maxRecDepth 100000 in
theorem towlineref01_Bytes.calls (k : Nat) (A0 : Option Addr) (c0 : Nat) (l0 : List Int) (A1 : Option Addr) (c1 : Nat) (l1 : List Int) (r : List Int) (w : World) (hr0 : Kd.C (Kd.int .u8) w A0 l0.length l0) (hc0 : l0.length ≤ c0) (hr1 : Kd.C (Kd.int .u8) w A1 l1.length l1) (hc1 : l1.length ≤ c1) (h : towlineref01_Bytes.f k l0 l1 = some r) :
    Calls Try.prog 89 #[.slice A0 l0.length c0, .slice A1 l1.length c1] w fun e w' => ∃ v0_ : Value, e = .returned (v0_) ∧ Kd.R (Kd.int .u8) 5 w' w.heap.size (fun _ => True) v0_ r ∧ Below w.heap.size w w' := by
  have HR0 := Aside0.mk hr0
  have HC0 := Aside0.mk hc0
  clear hr0 hc0
  have HR1 := Aside0.mk hr1
  have HC1 := Aside0.mk hc1
  clear hr1 hc1
  have HB := Aside0.mk (Below.refl w.heap.size w)
  have H : ((towlineref01_Put.f k l0 (([IntKind.u64.wrap ((l1.length : Int))] : List Int))).bind fun t186 => (if t186.length + l1.length < 140737488355328 then (some (t186 ++ l1)) else (none))) = some r := h
  clear h
  obtain ⟨y183, hy183⟩ : ∃ y_ : List Int, y_ = (([IntKind.u64.wrap ((l1.length : Int))] : List Int)) := ⟨_, rfl⟩
  replace H : ((towlineref01_Put.f k l0 y183).bind fun t186 => (if t186.length + l1.length < 140737488355328 then (some (t186 ++ l1)) else (none))) = some r := by first | (rw [hy183]; with_reducible exact H) | (have H2_ := (Option.bind_some _ _).symm.trans H; rw [hy183]; with_reducible exact H2_) | (have H2_ := (Option.bind_some _ _).symm.trans H; with_reducible exact H2_) | with_reducible exact H | (rw [hy183]; exact H) | exact H
  have Ny183 := Aside0.mk hy183
  clear hy183
  replace H := Option.bind_eq_some_iff.mp H
  obtain ⟨t186, A30, H⟩ := H
  replace H : (if t186.length + l1.length < 140737488355328 then (some (t186 ++ l1)) else (none)) = some r := H
  have A3 := Aside0.mk A30
  clear A30
  by_cases c4 : t186.length + l1.length < 140737488355328
  · rw [if_pos c4] at H
    have LMc4 := Aside0.mk c4
    clear c4
    obtain ⟨y189, hy189⟩ : ∃ y_ : List Int, y_ = (t186 ++ l1) := ⟨_, rfl⟩
    replace H : (some y189) = some r := by first | (rw [hy189]; with_reducible exact H) | (have H2_ := (Option.bind_some _ _).symm.trans H; rw [hy189]; with_reducible exact H2_) | (have H2_ := (Option.bind_some _ _).symm.trans H; with_reducible exact H2_) | with_reducible exact H | (rw [hy189]; exact H) | exact H
    have Ny189 := Aside0.mk hy189
    clear hy189
    obtain rfl := Option.some.inj H
    go_enter Try.func89, Try.ntmps89
    go_wp2_with (first | ((with_reducible refine gate_dst (N := 9) rfl ?_); refine Kd.R_lit (Kd.int .u64) _ 130 ?hg (N := 9) ?hd (xs := ([IntKind.u64.wrap ((l1.length : Int))] : List Int)) (inner := [.int .u64 (IntKind.u64.wrap ((l1.length : Int)))]) (ok := fun _ => True) (okp := fun _ => True) ?hr ?hp (fun _ hk => hk) trivial (Below.refl _ _) (Nat.le_refl _) (by simp) ?_; (case hd => rfl); (case hg => rfl); (case hr => first | (go_simp; done) | (go_simp; rfl)); (case hp => exact (Reps.one (show Kd.M (Kd.int .u64) _ _ _ (IntKind.u64.wrap ((l1.length : Int))) [.int .u64 (IntKind.u64.wrap ((l1.length : Int)))] from rfl) (Reps.none _ _))); intro v184 w5 ho6 hb hg_ hnew_; clear hg_ hnew_; (first | rw [← Ny183.out] at ho6 | (simp only [Int.reduceToNat] at ho6; rw [← Ny183.out] at ho6)); have n0_ := Aside0.mk (Kd.R_lower ho6 (below_size (by repeat (first | (with_reducible first | exact HB.out | apply below_alloc | apply pw_below_drewN | apply below_drew1) | exact HB.out)))); have n1_ := Aside0.mk (below_step (by repeat (first | (with_reducible first | exact HB.out | apply below_alloc | apply pw_below_drewN | apply below_drew1) | exact HB.out)) hb); clear HB; have HO185 := n0_; have HB := n1_; clear n0_ n1_; clear hb ho6; obtain ⟨Ao7, co7, eo7⟩ := Kd.R_slice HO185.out; subst eo7) | ((with_reducible refine gate_callee (f := 90) rfl ?_); refine goesL_ (some 10) rfl rfl Try.func90 (by kernel_rfl) rfl #[.slice A0 l0.length c0, .slice Ao7 y183.length co7] rfl (by (try simp only [List.map_toArray, List.map_cons, List.map_nil]); first | done | rfl | (simp only [List.length_drop, List.length_take]; rfl)) ?_; (with_reducible refine (towlineref01_Put.calls k _ _ l0 _ _ y183 t186 _ ?side1 ?side2 ?side3 ?side4 A3.out).mono ?_); (case side1 => repeat (first | exact (Kd.C_below HR0.out HB.out) | (with_reducible refine Kd.C_alloc ?_ _) | (with_reducible refine Kd.C_drewN ?_ _) | (with_reducible refine Kd.C_drew ?_))); (case side2 => exact HC0.out); (case side3 => repeat (first | exact (Kd.R_reads' HO185.out).2.2 | (with_reducible refine Kd.C_alloc ?_ _) | (with_reducible refine Kd.C_drewN ?_ _) | (with_reducible refine Kd.C_drew ?_))); (case side4 => exact (Kd.R_reads' HO185.out).2.1); rintro e w8 ⟨v187, rfl, ho0, hb⟩; refine ⟨_, rfl, ?_⟩; have n0_ := Aside0.mk (Kd.R_below (by (with_reducible repeat (first | apply Kd.R_alloc | apply Kd.R_drewN | apply Kd.R_drew)); exact HO185.out) hb); have n1_ := Aside0.mk (Kd.R_lower ho0 (below_size (by repeat (first | (with_reducible first | exact HB.out | apply below_alloc | apply pw_below_drewN | apply below_drew1) | exact HB.out)))); have n2_ := Aside0.mk (below_step (by repeat (first | (with_reducible first | exact HB.out | apply below_alloc | apply pw_below_drewN | apply below_drew1) | exact HB.out)) hb); clear HO185; clear HB; have HO185 := n0_; have HO188 := n1_; have HB := n2_; clear n0_ n1_ n2_; (try clear hb); (try clear hb2); (try clear hk); (try clear hi); (try clear ho0)) | ((with_reducible refine gate_builtin (b := .append) (xs := #[.tmp 10, .tmp 11]) rfl ?_); at_builtin; refine Kd.R_append_rows (Kd.int .u8) (w0 := w) w.heap.size rfl (.tmp 10) (.tmp 11) 32 5 (.int .u8 0) 1 rfl Try.underlying32 info5 rfl (by decide) (by omega) v187 t186 l1 _ _ _ (fun _ => True) (fun _ => False) rfl rfl ?aO ?aR (fun _ _ h => h) (fun _ h => h.elim) ?aF ?aB ?aS ?aL ?_; (case aR => repeat (first | exact (Kd.C_below HR1.out HB.out) | (with_reducible refine Kd.C_alloc ?_ _) | (with_reducible refine Kd.C_drewN ?_ _) | (with_reducible refine Kd.C_drew ?_))); (case aB => exact (by repeat (first | (with_reducible first | exact HB.out | apply below_alloc | apply pw_below_drewN | apply below_drew1) | exact HB.out))); (case aF => exact (fun _ _ => trivial)); (case aO => exact (by (with_reducible repeat (first | apply Kd.R_alloc | apply Kd.R_drewN | apply Kd.R_drew)); exact HO188.out)); (case aS => exact (below_size (by repeat (first | (with_reducible first | exact HB.out | apply below_alloc | apply pw_below_drewN | apply below_drew1) | exact HB.out)))); (case aL => have := LMc4.out; omega); intro v190 w9 ho hb hg hat; rw [← Ny189.out] at ho; have n0_ := Aside0.mk (Kd.R_over' (by (with_reducible repeat (first | apply Kd.R_alloc | apply Kd.R_drewN | apply Kd.R_drew)); exact HO185.out) (Kd.R_typed (by (with_reducible repeat (first | apply Kd.R_alloc | apply Kd.R_drewN | apply Kd.R_drew)); exact HO188.out)) (by decide) hg); have n1_ := Aside0.mk (hb); have n2_ := Aside0.mk (ho); clear HO185; clear HB; clear HO188; have HO185 := n0_; have HB := n1_; have HO191 := n2_; clear n0_ n1_ n2_; clear ho hb hg hat))
    go_ret
    exact ⟨_, by first | rfl | (simp [errW_none, errW_some] <;> rfl) | (simp [*, errW_none, errW_some] <;> rfl), by (with_reducible repeat (first | apply Kd.R_alloc | apply Kd.R_drewN | apply Kd.R_drew)); exact HO191.out, by repeat (first | (with_reducible first | exact HB.out | apply below_alloc | apply pw_below_drewN | apply below_drew1) | exact HB.out)⟩
  · rw [if_neg c4] at H
    exact absurd H (by simp)
mutual
def towlineref01_Sum.l0 : Nat → Int → List Int → Int → Int → Option (Int)
  | 0, _, _, _, _ => none
  | k + 1, x3, x7, x8, x9 => if x9 < x8 then (if 0 ≤ x9 then (if x9 < (x7.length : Int) then (towlineref01_Sum.l1 k (Go.bits .xor .u32 x3 ((rd x7 x9) % 4294967296)) x7 x8 x9 0) else (none)) else (none)) else (some ((4294967295 - x3) % 4294967296))
def towlineref01_Sum.l1 : Nat → Int → List Int → Int → Int → Int → Option (Int)
  | 0, _, _, _, _, _ => none
  | k + 1, x3, x7, x8, x9, x17 => if x17 < 8 then (if (Int.tmod x3 2) = 1 then (towlineref01_Sum.l1 k (Go.bits .xor .u32 ((Int.tdiv x3 2) % 4294967296) 2197175160) x7 x8 x9 (wrap64 (x17 + 1))) else (towlineref01_Sum.l1 k ((Int.tdiv x3 2) % 4294967296) x7 x8 x9 (wrap64 (x17 + 1)))) else (towlineref01_Sum.l0 k x3 x7 x8 (wrap64 (x9 + 1)))
end
def towlineref01_Sum.f (k : Nat) (l0 : List Int) : Option (Int) := towlineref01_Sum.l0 k 4294967295 l0 (l0.length : Int) 0
set_option maxHeartbeats 8000000 in
set_option maxRecDepth 100000 in
theorem towlineref01_Sum.calls (k : Nat) (A0 : Option Addr) (c0 : Nat) (l0 : List Int) (r : Int) (w : World) (hr0 : Kd.C (Kd.int .u8) w A0 l0.length l0) (hc0 : l0.length ≤ c0) (h : towlineref01_Sum.f k l0 = some r) :
    Calls Try.prog 91 #[.slice A0 l0.length c0] w fun e w' => e = .returned (.int .u32 r) ∧ Drawn0 w w' := by
  have HR0 := Aside0.mk hr0
  have HC0 := Aside0.mk hc0
  clear hr0 hc0
  have H : (towlineref01_Sum.l0 k 4294967295 l0 (l0.length : Int) 0) = some r := h
  clear h
  have H' := Aside0.mk H
  clear H
  go_enter Try.func91, Try.ntmps91
  go_wp2
  go_loopg [3, 9] k (fun kq v3 v9 w' => ∃ (x3_1 : Int) (x9_1 : Int), v3 = .int .u32 x3_1 ∧ v9 = .int .i64 x9_1 ∧ Aside0 (towlineref01_Sum.l0 kq x3_1 l0 (l0.length : Int) x9_1 = some r) ∧ Aside0 (kq ≤ k) ∧ Drawn0 w w')
  case atStart => exact ⟨(4294967295), (0), (by first | rfl | (simp; done) | (simp [*]; done)), (by first | rfl | (simp; done) | (simp [*]; done)), H', ⟨Nat.le_refl _⟩, by repeat (first | exact Drawn0.refl _ | apply Drawn0.step)⟩
  case round =>
    clear H'
    obtain ⟨x3_1, x9_1, rfl, rfl, HA, HK1, ⟨m1, rfl⟩⟩ := hrel
    cases gk with
    | zero => exact absurd HA.out (by simp [towlineref01_Sum.l0])
    | succ k1 =>
      have H := HA.out
      clear HA
      simp only [towlineref01_Sum.l0] at H
      by_cases c2 : x9_1 < (l0.length : Int)
      · rw [if_pos c2] at H
        have c2b0 : decide (x9_1 < (l0.length : Int)) = true := decide_eq_true c2
        clear c2
        by_cases c3 : 0 ≤ x9_1
        · rw [if_pos c3] at H
          have c3b0 : decide (0 ≤ x9_1) = true := decide_eq_true c3
          clear c3
          by_cases c4 : x9_1 < (l0.length : Int)
          · rw [if_pos c4] at H
            have c4b0 : decide (x9_1 < (l0.length : Int)) = true := decide_eq_true c4
            clear c4
            have H' := Aside0.mk H
            clear H
            have p192 : 0 ≤ (x9_1 : Int) := of_decide_eq_true (by first | (with_reducible assumption) | assumption)
            have q192 : x9_1 < (l0.length : Int) := of_decide_eq_true (by first | (with_reducible assumption) | assumption)
            obtain ⟨ad192, e192, hx192_0⟩ := Kd.at_int HR0.out x9_1 p192 q192
            cases e192
            replace p192 := eq_true p192
            replace q192 := eq_true q192
            go_wp2
            go_loopg [3, 17] k1 (fun kq v3 v17 w' => ∃ (x3_2 : Int) (x17_2 : Int), v3 = .int .u32 x3_2 ∧ v17 = .int .i64 x17_2 ∧ Aside0 (towlineref01_Sum.l1 kq x3_2 l0 (l0.length : Int) x9_1 x17_2 = some r) ∧ Aside0 (kq ≤ k1) ∧ Drawn0 w w')
            case atStart => exact ⟨(Go.bits .xor .u32 x3_1 ((rd l0 x9_1) % 4294967296)), (0), (by first | rfl | (simp; done) | (simp [*]; done)), (by first | rfl | (simp; done) | (simp [*]; done)), H', ⟨Nat.le_refl _⟩, by repeat (first | exact Drawn0.refl _ | apply Drawn0.step)⟩
            case round =>
              clear H'
              try clear p1
              try clear q1
              try clear hx1
              try clear c2
              try clear c2b0
              try clear p2
              try clear c3
              try clear c3b0
              try clear c4
              try clear c4b0
              try clear hx192_0
              try clear p192
              try clear q192
              obtain ⟨x3_2, x17_2, rfl, rfl, HA, HK2, ⟨m2, rfl⟩⟩ := hrel
              cases gk with
              | zero => exact absurd HA.out (by simp [towlineref01_Sum.l1])
              | succ k2 =>
                have H := HA.out
                clear HA
                simp only [towlineref01_Sum.l1] at H
                by_cases c5 : x17_2 < 8
                · rw [if_pos c5] at H
                  have c5b0 : decide (x17_2 < 8) = true := decide_eq_true c5
                  clear c5
                  by_cases c6 : (Int.tmod x3_2 2) = 1
                  · rw [if_pos c6] at H
                    have c6b0 : ((Int.tmod x3_2 2) == 1) = true := beq_iff_eq.mpr c6
                    have c6b1 : ((Int.tmod x3_2 2) != 1) = false := bne_eq_false_iff_eq.mpr c6
                    clear c6
                    have H' := Aside0.mk H
                    clear H
                    go_wp2
                    go_roundg k2
                    case measure => have := HK1.out; have := HK2.out; omega
                    case rel => exact ⟨(Go.bits .xor .u32 ((Int.tdiv x3_2 2) % 4294967296) 2197175160), (wrap64 (x17_2 + 1)), (by first | rfl | (simp; done) | (simp [*]; done)), (by first | rfl | (simp; done) | (simp [*]; done)), H', ⟨by have := HK1.out; have := HK2.out; omega⟩, by repeat (first | exact Drawn0.refl _ | apply Drawn0.step)⟩
                  · rw [if_neg c6] at H
                    have c6b0 : ((Int.tmod x3_2 2) == 1) = false := beq_eq_false_iff_ne.mpr c6
                    have c6b1 : ((Int.tmod x3_2 2) != 1) = true := bne_iff_ne.mpr c6
                    have H' := Aside0.mk H
                    clear H
                    go_wp2
                    go_roundg k2
                    case measure => have := HK1.out; have := HK2.out; omega
                    case rel => exact ⟨((Int.tdiv x3_2 2) % 4294967296), (wrap64 (x17_2 + 1)), (by first | rfl | (simp; done) | (simp [*]; done)), (by first | rfl | (simp; done) | (simp [*]; done)), H', ⟨by have := HK1.out; have := HK2.out; omega⟩, by repeat (first | exact Drawn0.refl _ | apply Drawn0.step)⟩
                · rw [if_neg c5] at H
                  have c5b0 : decide (x17_2 < 8) = false := decide_eq_false c5
                  clear c5
                  have H' := Aside0.mk H
                  clear H
                  go_wp2
                  go_roundg k2
                  case measure => have := HK1.out; have := HK2.out; omega
                  case rel => exact ⟨(x3_2), (wrap64 (x9_1 + 1)), (by first | rfl | (simp; done) | (simp [*]; done)), (by first | rfl | (simp; done) | (simp [*]; done)), H', ⟨by have := HK1.out; have := HK2.out; omega⟩, by repeat (first | exact Drawn0.refl _ | apply Drawn0.step)⟩
          · rw [if_neg c4] at H
            exact absurd H (by simp)
        · rw [if_neg c3] at H
          exact absurd H (by simp)
      · rw [if_neg c2] at H
        have c2b0 : decide (x9_1 < (l0.length : Int)) = false := decide_eq_false c2
        clear c2
        obtain rfl := Option.some.inj H
        go_wp2
        go_ret
        exact ⟨by first | rfl | (simp; done) | (simp [*]; done), by repeat (first | exact Drawn0.refl _ | apply Drawn0.step)⟩
def towlineref01_Seal.f (k : Nat) (l0 : List Int) : Option (List Int × Int) := if (l0.length : Int) > 8192 then (some (([] : List Int), 4)) else ((towlineref01_Bytes.f k ([] : List Int) l0).bind fun t193 => ((towlineref01_Sum.f k t193).bind fun t196 => ((some (([((Int.tdiv t196 16777216) % 4294967296) % 256, ((Int.tdiv t196 65536) % 4294967296) % 256, ((Int.tdiv t196 256) % 4294967296) % 256, (Int.tmod t196 256) % 256] : List Int) : List Int)).bind fun y197 => (if t193.length + y197.length < 140737488355328 then (some ((t193 ++ y197), 0)) else (none)))))
set_option maxHeartbeats 8000000 in
set_option maxRecDepth 100000 in
theorem towlineref01_Seal.calls (k : Nat) (A0 : Option Addr) (c0 : Nat) (l0 : List Int) (r1 : List Int) (r2 : Int) (w : World) (hr0 : Kd.C (Kd.int .u8) w A0 l0.length l0) (hc0 : l0.length ≤ c0) (h : towlineref01_Seal.f k l0 = some (r1, r2)) :
    Calls Try.prog 71 #[.slice A0 l0.length c0] w fun e w' => ∃ v0_ : Value, e = .returned (.tuple #[v0_, .int .i64 r2]) ∧ Kd.R (Kd.int .u8) 5 w' w.heap.size (fun _ => True) v0_ r1 ∧ Below w.heap.size w w' := by
  have HR0 := Aside0.mk hr0
  have HC0 := Aside0.mk hc0
  clear hr0 hc0
  have HB := Aside0.mk (Below.refl w.heap.size w)
  have H : (if (l0.length : Int) > 8192 then (some (([] : List Int), 4)) else ((towlineref01_Bytes.f k ([] : List Int) l0).bind fun t193 => ((towlineref01_Sum.f k t193).bind fun t196 => ((some (([((Int.tdiv t196 16777216) % 4294967296) % 256, ((Int.tdiv t196 65536) % 4294967296) % 256, ((Int.tdiv t196 256) % 4294967296) % 256, (Int.tmod t196 256) % 256] : List Int) : List Int)).bind fun y197 => (if t193.length + y197.length < 140737488355328 then (some ((t193 ++ y197), 0)) else (none)))))) = some (r1, r2) := h
  clear h
  by_cases c2 : (l0.length : Int) > 8192
  · rw [if_pos c2] at H
    have c2b0 : decide (8192 < (l0.length : Int)) = true := decide_eq_true c2
    have c2b1 : decide (8192 < l0.length) = true := decide_eq_true (by omega)
    clear c2
    simp only [Option.some.injEq, Prod.mk.injEq] at H
    obtain ⟨rfl, rfl⟩ := H
    go_enter Try.func71, Try.ntmps71
    go_wp2
    go_ret2
    exact ⟨_, by first | rfl | (simp [errW_none, errW_some] <;> rfl) | (simp [*, errW_none, errW_some] <;> rfl), by first | exact Kd.R_nil _ _ _ _ _ | exact Kd.N_nil _ _ _ _ _ | exact Kd.V_nil _ _ _ _ _ | exact Kd.Q_nil _ _ _ _ _ | exact Kd.S_nil _ _ _ _ _, by repeat (first | (with_reducible first | exact HB.out | apply below_alloc | apply pw_below_drewN | apply below_drew1) | exact HB.out)⟩
  · rw [if_neg c2] at H
    have c2b0 : decide (8192 < (l0.length : Int)) = false := decide_eq_false c2
    have c2b1 : decide (8192 < l0.length) = false := decide_eq_false (by omega)
    clear c2
    replace H := Option.bind_eq_some_iff.mp H
    obtain ⟨t193, A30, H⟩ := H
    replace H : ((towlineref01_Sum.f k t193).bind fun t196 => ((some (([((Int.tdiv t196 16777216) % 4294967296) % 256, ((Int.tdiv t196 65536) % 4294967296) % 256, ((Int.tdiv t196 256) % 4294967296) % 256, (Int.tmod t196 256) % 256] : List Int) : List Int)).bind fun y197 => (if t193.length + y197.length < 140737488355328 then (some ((t193 ++ y197), 0)) else (none)))) = some (r1, r2) := H
    have A3 := Aside0.mk A30
    clear A30
    replace H := Option.bind_eq_some_iff.mp H
    obtain ⟨t196, A40, H⟩ := H
    replace H : ((some (([((Int.tdiv t196 16777216) % 4294967296) % 256, ((Int.tdiv t196 65536) % 4294967296) % 256, ((Int.tdiv t196 256) % 4294967296) % 256, (Int.tmod t196 256) % 256] : List Int) : List Int)).bind fun y197 => (if t193.length + y197.length < 140737488355328 then (some ((t193 ++ y197), 0)) else (none))) = some (r1, r2) := H
    have A4 := Aside0.mk A40
    clear A40
    obtain ⟨y197, hy197⟩ : ∃ y_ : List Int, y_ = (([((Int.tdiv t196 16777216) % 4294967296) % 256, ((Int.tdiv t196 65536) % 4294967296) % 256, ((Int.tdiv t196 256) % 4294967296) % 256, (Int.tmod t196 256) % 256] : List Int)) := ⟨_, rfl⟩
    replace H : (if t193.length + y197.length < 140737488355328 then (some ((t193 ++ y197), 0)) else (none)) = some (r1, r2) := by first | (rw [hy197]; with_reducible exact H) | (have H2_ := (Option.bind_some _ _).symm.trans H; rw [hy197]; with_reducible exact H2_) | (have H2_ := (Option.bind_some _ _).symm.trans H; with_reducible exact H2_) | with_reducible exact H | (rw [hy197]; exact H) | exact H
    have Ny197 := Aside0.mk hy197
    clear hy197
    by_cases c5 : t193.length + y197.length < 140737488355328
    · rw [if_pos c5] at H
      have LMc5 := Aside0.mk c5
      clear c5
      obtain ⟨y200, hy200⟩ : ∃ y_ : List Int, y_ = (t193 ++ y197) := ⟨_, rfl⟩
      replace H : (some (y200, 0)) = some (r1, r2) := by first | (rw [hy200]; with_reducible exact H) | (have H2_ := (Option.bind_some _ _).symm.trans H; rw [hy200]; with_reducible exact H2_) | (have H2_ := (Option.bind_some _ _).symm.trans H; with_reducible exact H2_) | with_reducible exact H | (rw [hy200]; exact H) | exact H
      have Ny200 := Aside0.mk hy200
      clear hy200
      simp only [Option.some.injEq, Prod.mk.injEq] at H
      obtain ⟨rfl, rfl⟩ := H
      go_enter Try.func71, Try.ntmps71
      go_wp2_with (first | ((with_reducible refine gate_callee (f := 89) rfl ?_); refine goesL_ (some 10) rfl rfl Try.func89 (by kernel_rfl) rfl #[.slice none 0 0, .slice A0 l0.length c0] rfl (by (try simp only [List.map_toArray, List.map_cons, List.map_nil]); first | done | rfl | (simp only [List.length_drop, List.length_take]; rfl)) ?_; (refine (towlineref01_Bytes.calls k _ _ ([] : List Int) _ _ l0 t193 _ ?side1 ?side2 ?side3 ?side4 A3.out).mono ?_); (case side1 => exact Kd.C_nil _ _); (case side2 => exact Nat.le_refl _); (case side3 => repeat (first | exact HR0.out | (with_reducible refine Kd.C_alloc ?_ _) | (with_reducible refine Kd.C_drewN ?_ _) | (with_reducible refine Kd.C_drew ?_))); (case side4 => exact HC0.out); rintro e w6 ⟨v194, rfl, ho0, hb⟩; refine ⟨_, rfl, ?_⟩; have n0_ := Aside0.mk (Kd.R_lower ho0 (below_size (by repeat (first | (with_reducible first | exact HB.out | apply below_alloc | apply pw_below_drewN | apply below_drew1) | exact HB.out)))); have n1_ := Aside0.mk (below_step (by repeat (first | (with_reducible first | exact HB.out | apply below_alloc | apply pw_below_drewN | apply below_drew1) | exact HB.out)) hb); clear HB; have HO195 := n0_; have HB := n1_; clear n0_ n1_; (try clear hb); (try clear hb2); (try clear hk); (try clear hi); (try clear ho0); obtain ⟨Ao7, co7, eo7⟩ := Kd.R_slice HO195.out; subst eo7) | ((with_reducible refine gate_callee (f := 91) rfl ?_); refine goesL_ (some 12) rfl rfl Try.func91 (by kernel_rfl) rfl #[.slice Ao7 t193.length co7] rfl (by (try simp only [List.map_toArray, List.map_cons, List.map_nil]); first | done | rfl | (simp only [List.length_drop, List.length_take]; rfl)) ?_; (with_reducible refine (towlineref01_Sum.calls k _ _ t193 t196 _ ?side1 ?side2 A4.out).mono ?_); (case side1 => repeat (first | exact (Kd.R_reads' HO195.out).2.2 | (with_reducible refine Kd.C_alloc ?_ _) | (with_reducible refine Kd.C_drewN ?_ _) | (with_reducible refine Kd.C_drew ?_))); (case side2 => exact (Kd.R_reads' HO195.out).2.1); rintro e w' ⟨rfl, ⟨nd, rfl⟩⟩; refine ⟨_, rfl, ?_⟩) | ((with_reducible refine gate_dst (N := 28) rfl ?_); refine Kd.R_lit (Kd.int .u8) _ 5 ?hg (N := 28) ?hd (xs := ([((Int.tdiv t196 16777216) % 4294967296) % 256, ((Int.tdiv t196 65536) % 4294967296) % 256, ((Int.tdiv t196 256) % 4294967296) % 256, (Int.tmod t196 256) % 256] : List Int)) (inner := [.int .u8 (((Int.tdiv t196 16777216) % 4294967296) % 256), .int .u8 (((Int.tdiv t196 65536) % 4294967296) % 256), .int .u8 (((Int.tdiv t196 256) % 4294967296) % 256), .int .u8 ((Int.tmod t196 256) % 256)]) (ok := fun _ => True) (okp := fun _ => True) ?hr ?hp (fun _ hk => hk) trivial (Below.refl _ _) (Nat.le_refl _) (by simp) ?_; (case hd => rfl); (case hg => rfl); (case hr => first | (go_simp; done) | (go_simp; rfl)); (case hp => exact (Reps.one (show Kd.M (Kd.int .u8) _ _ _ (((Int.tdiv t196 16777216) % 4294967296) % 256) [.int .u8 (((Int.tdiv t196 16777216) % 4294967296) % 256)] from rfl) (Reps.one (show Kd.M (Kd.int .u8) _ _ _ (((Int.tdiv t196 65536) % 4294967296) % 256) [.int .u8 (((Int.tdiv t196 65536) % 4294967296) % 256)] from rfl) (Reps.one (show Kd.M (Kd.int .u8) _ _ _ (((Int.tdiv t196 256) % 4294967296) % 256) [.int .u8 (((Int.tdiv t196 256) % 4294967296) % 256)] from rfl) (Reps.one (show Kd.M (Kd.int .u8) _ _ _ ((Int.tmod t196 256) % 256) [.int .u8 ((Int.tmod t196 256) % 256)] from rfl) (Reps.none _ _)))))); intro v198 w8 ho9 hb hg_ hnew_; clear hg_ hnew_; (first | rw [← Ny197.out] at ho9 | (simp only [Int.reduceToNat] at ho9; rw [← Ny197.out] at ho9)); have n0_ := Aside0.mk (Kd.R_elder' (by (with_reducible repeat (first | apply Kd.R_alloc | apply Kd.R_drewN | apply Kd.R_drew)); exact HO195.out) (Kd.R_base ho9) hb); have n1_ := Aside0.mk (Kd.R_lower (Kd.R_new' ho9 (Kd.R_lt (by (with_reducible repeat (first | apply Kd.R_alloc | apply Kd.R_drewN | apply Kd.R_drew)); exact HO195.out))) (below_size (by repeat (first | (with_reducible first | exact HB.out | apply below_alloc | apply pw_below_drewN | apply below_drew1) | exact HB.out)))); have n2_ := Aside0.mk (below_step (by repeat (first | (with_reducible first | exact HB.out | apply below_alloc | apply pw_below_drewN | apply below_drew1) | exact HB.out)) hb); clear HO195; clear HB; have HO195 := n0_; have HO199 := n1_; have HB := n2_; clear n0_ n1_ n2_; clear hb ho9; obtain ⟨Ao11, co11, eo11⟩ := Kd.R_slice HO199.out; subst eo11) | ((with_reducible refine gate_builtin (b := .append) (xs := #[.tmp 13, .tmp 28]) rfl ?_); at_builtin; refine Kd.R_append_rows (Kd.int .u8) (w0 := w) w.heap.size rfl (.tmp 13) (.tmp 28) 32 5 (.int .u8 0) 1 rfl Try.underlying32 info5 rfl (by decide) (by omega) (.slice Ao7 t193.length co7) t193 y197 _ _ _ (fun k_ => some k_ ≠ (.slice Ao11 y197.length co11 : Value).ownBlock) (fun _ => False) rfl rfl ?aO ?aR (fun _ _ h => h) (fun _ h => h.elim) ?aF ?aB ?aS ?aL ?_; (case aR => repeat (first | exact (Kd.R_reads' HO199.out).2.2 | (with_reducible refine Kd.C_alloc ?_ _) | (with_reducible refine Kd.C_drewN ?_ _) | (with_reducible refine Kd.C_drew ?_))); (case aB => exact (by repeat (first | (with_reducible first | exact HB.out | apply below_alloc | apply pw_below_drewN | apply below_drew1) | exact HB.out))); (case aF => exact (fun k_ hk => Kd.fresh' (Kd.R_lt (by (with_reducible repeat (first | apply Kd.R_alloc | apply Kd.R_drewN | apply Kd.R_drew)); exact HO199.out)) k_ hk)); (case aO => exact (by (with_reducible repeat (first | apply Kd.R_alloc | apply Kd.R_drewN | apply Kd.R_drew)); exact Kd.R_mono HO195.out (fun _ hk => hk.2))); (case aS => exact (below_size (by repeat (first | (with_reducible first | exact HB.out | apply below_alloc | apply pw_below_drewN | apply below_drew1) | exact HB.out)))); (case aL => have := LMc5.out; omega); intro v201 w10 ho hb hg hat; rw [← Ny200.out] at ho; have n0_ := Aside0.mk (Kd.R_after (ok := (fun _ => True)) (by (with_reducible repeat (first | apply Kd.R_alloc | apply Kd.R_drewN | apply Kd.R_drew)); exact HO199.out) hg hat); have n1_ := Aside0.mk (hb); have n2_ := Aside0.mk (ho); clear HO199; clear HB; clear HO195; have HO199 := n0_; have HB := n1_; have HO202 := n2_; clear n0_ n1_ n2_; clear ho hb hg hat))
      go_ret2
      exact ⟨_, by first | rfl | (simp [errW_none, errW_some] <;> rfl) | (simp [*, errW_none, errW_some] <;> rfl), by (with_reducible repeat (first | apply Kd.R_alloc | apply Kd.R_drewN | apply Kd.R_drew)); exact Kd.R_mono HO202.out (fun _ hk => trivial), by repeat (first | (with_reducible first | exact HB.out | apply below_alloc | apply pw_below_drewN | apply below_drew1) | exact HB.out)⟩
    · rw [if_neg c5] at H
      exact absurd H (by simp)
end Go.Proofs.Ytehjbhnlbjbhfaa.PTapePlays
-- PTapePlaysx3
namespace Go.Proofs.Ytehjbhnlbjbhfaa.PTapePlays
open Go.RowKit Go.Proofs.YtehjbhnlbjbhfaaW.PrintWords Go.Proofs.YtehjbhnlbjbhfaaW.PrintLast Go.Proofs.YtehjbhnlbjbhfaaW.PrintMore
attribute [local go_sem] max2_int min2_int max_two min_two
set_option linter.unusedVariables false
set_option linter.unusedSimpArgs false
mutual
def towlineref01_Reader_Number.l0 : Nat → Int → Int → Int → List Int → Int → Int → Option (Int × Int × Int)
  | 0, _, _, _, _, _, _ => none
  | k + 1, x3, x4, x13, x1000, x1001, x1002 => if x13 < 11 then (if (wrap64 (x1001 + x13)) ≥ (x1000.length : Int) then (some (0, x1001, 2)) else (if 0 ≤ (wrap64 (x1001 + x13)) then (if (wrap64 (x1001 + x13)) < (x1000.length : Int) then (if x13 = 10 then (towlineref01_Reader_Number.j1 k x3 x4 x13 (rd x1000 (wrap64 (x1001 + x13))) (IntKind.u64.wrap (Int.tmod (rd x1000 (wrap64 (x1001 + x13))) 128)) x13 true x1000 x1001 x1002) else (if x13 = 9 then (towlineref01_Reader_Number.j1 k x3 x4 x13 (rd x1000 (wrap64 (x1001 + x13))) (IntKind.u64.wrap (Int.tmod (rd x1000 (wrap64 (x1001 + x13))) 128)) x13 (decide ((IntKind.u64.wrap (Int.tmod (rd x1000 (wrap64 (x1001 + x13))) 128)) > 1)) x1000 x1001 x1002) else (towlineref01_Reader_Number.j1 k x3 x4 x13 (rd x1000 (wrap64 (x1001 + x13))) (IntKind.u64.wrap (Int.tmod (rd x1000 (wrap64 (x1001 + x13))) 128)) x13 false x1000 x1001 x1002))) else (none)) else (none))) else (some (0, x1001, x1002))
def towlineref01_Reader_Number.j1 : Nat → Int → Int → Int → Int → Int → Int → Bool → List Int → Int → Int → Option (Int × Int × Int)
  | 0, _, _, _, _, _, _, _, _, _, _ => none
  | k + 1, x3, x4, x5, x6, x7, x13, x55, x1000, x1001, x1002 => if x55 = true then (some (0, x1001, 5)) else (if x6 = 0 then (towlineref01_Reader_Number.j2 k x3 x4 x5 x6 x7 x13 (decide (x5 > 0)) x1000 x1001 x1002) else (towlineref01_Reader_Number.j2 k x3 x4 x5 x6 x7 x13 false x1000 x1001 x1002))
def towlineref01_Reader_Number.j2 : Nat → Int → Int → Int → Int → Int → Int → Bool → List Int → Int → Int → Option (Int × Int × Int)
  | 0, _, _, _, _, _, _, _, _, _, _ => none
  | k + 1, x3, x4, x5, x6, x7, x13, x64, x1000, x1001, x1002 => if x64 = true then (some (0, x1001, 10)) else (if x6 < 128 then (some (IntKind.u64.wrap (x3 + (IntKind.u64.wrap (x7 * x4))), wrap64 ((wrap64 (x1001 + x5)) + 1), x1002)) else (towlineref01_Reader_Number.l0 k (IntKind.u64.wrap (x3 + (IntKind.u64.wrap (x7 * x4)))) (IntKind.u64.wrap (x4 * 128)) (wrap64 (x13 + 1)) x1000 x1001 x1002))
end
def towlineref01_Reader_Number.f (k : Nat) (s0_0 : List Int) (s0_1 : Int) (s0_2 : Int) : Option (Int × Int × Int) := if s0_2 = 0 then (towlineref01_Reader_Number.l0 k 0 1 0 s0_0 s0_1 s0_2) else (some (0, s0_1, s0_2))
end Go.Proofs.Ytehjbhnlbjbhfaa.PTapePlays
