import Derived.Test.YtleaiojilmkhaaaReadBytes
import Derived.Test.YtleaiojilmkhaaaPlainS
namespace Go.Proofs.Ytleaiojilmkhaaa.Wire
open Go Go.RowKit Go.Proofs.YtleaiojilmkhaaaW.PrintWords Go.Proofs.YtleaiojilmkhaaaW.PrintLast Go.Proofs.YtleaiojilmkhaaaW.PrintMore
open Go.Proofs.Ytleaiojilmkhaaa.WBase
attribute [local go_sem] max2_int min2_int max_two min_two
set_option linter.unusedVariables false
set_option linter.unusedSimpArgs false

/-- A number of 32 bits as bytes, the highest first. -/
def fourP (a : Int) : List Int := [(a / 16777216) % 256, (a / 65536) % 256, (a / 256) % 256, a % 256]
/-- What Open tells: the bytes, how many the record has, the error's number. -/
def openP (l : List Int) : List Int × Nat × Int :=
  if (bytesP (l.take 8208) 0 8192).2.2 ≠ 0 then ([], 0, (bytesP (l.take 8208) 0 8192).2.2)
  else if l.length < (bytesP (l.take 8208) 0 8192).2.1 + 4 then ([], 0, 2)
  else if fourP (sumP (l.take (bytesP (l.take 8208) 0 8192).2.1)) = (l.drop (bytesP (l.take 8208) 0 8192).2.1).take 4 then ((bytesP (l.take 8208) 0 8192).1, (bytesP (l.take 8208) 0 8192).2.1 + 4, 0)
  else ([], 0, 11)
theorem Bs.take {l : List Int} (h : Bs l) (n : Nat) : Bs (l.take n) := fun x hx => h x (List.mem_of_mem_take hx)
theorem Bs.drop {l : List Int} (h : Bs l) (n : Nat) : Bs (l.drop n) := fun x hx => h x (List.mem_of_mem_drop hx)
theorem bytesP_le (s : List Int) (at_ : Nat) (most : Int) (h : at_ ≤ s.length) : (bytesP s at_ most).2.1 ≤ s.length := by
  unfold bytesP
  generalize (if most < 0 then (0 : Int) else most) = M
  split
  · exact h
  · split
    · exact h
    · split
      · exact h
      · rename_i c; show at_ + (num (s.drop at_)).2.1 + (num (s.drop at_)).1 ≤ s.length; omega
theorem rd_nat {l : List Int} {j : Nat} (h : j < l.length) : rd l (j : Int) = l[j] := by
  unfold rd
  rw [Int.toNat_natCast, List.getD_eq_getElem?_getD, List.getElem?_eq_getElem h]; rfl
theorem four_all {x y : List Int} {n : Nat} (hx : x.length = 4) (hn : n + 4 ≤ y.length) (h : ∀ i, i < 4 → rd y ((n + i : Nat) : Int) = rd x (i : Int)) : x = (y.drop n).take 4 := by
  apply List.ext_getElem
  · rw [hx, List.length_take, List.length_drop]; omega
  · intro i h1 h2
    have h3 := h i (by omega)
    rw [rd_nat (by omega), rd_nat (by omega)] at h3
    rw [List.getElem_take, List.getElem_drop]; exact h3.symm
theorem four_not {x y : List Int} {n i : Nat} (hx : x.length = 4) (hn : n + 4 ≤ y.length) (hi : i < 4) (h : rd y ((n + i : Nat) : Int) ≠ rd x (i : Int)) : x ≠ (y.drop n).take 4 := by
  intro e
  apply h
  rw [rd_nat (show n + i < y.length by omega), rd_nat (show i < x.length by omega)]
  subst e
  rw [List.getElem_take, List.getElem_drop]
theorem cut_take {w0 : World} (A : Option Addr) (c : Nat) (s : List Int) (m : Nat) (hC : Kd.C (Kd.int .u8) w0 A s.length s) (hc : s.length ≤ c) (hm : m ≤ s.length) :
    (∀ W : World, (Instr.slice 22 (.slice A s.length c) none (some (.int .i64 (m : Int))) none).run Try.prog W = .ok (.slice A (s.take m).length c) W) ∧ Kd.C (Kd.int .u8) w0 A (s.take m).length (s.take m) ∧ (s.take m).length ≤ c := by
  obtain ⟨i0, hi, hz0, hz1, hz2⟩ := info_parts info5
  have hl : (s.take m).length = m := by rw [List.length_take]; omega
  refine ⟨fun W => ?_, Kd.C_take hC hm, by omega⟩
  rw [cut_to (P := Try.prog) 22 5 .i64 Try.underlying22 hi A s.length c m (by omega) (by omega) hc W, hl, Int.toNat_natCast]

set_option maxHeartbeats 8000000 in
set_option maxRecDepth 100000 in
theorem Open_calls (A0 : Option Addr) (c0 : Nat) (l : List Int) (w : World) (hr0 : Kd.C (Kd.int .u8) w A0 l.length l) (hc0 : l.length ≤ c0) (hs : Bs l) (hlen : l.length < 140737488355328) :
    Calls Try.prog 24 #[.slice A0 l.length c0] w fun e w' => ∃ v, e = .returned (.tuple #[v, .int .i64 ((openP l).2.1 : Int), .int .i64 (openP l).2.2]) ∧ Kd.R (Kd.int .u8) 5 w' w.heap.size (fun _ => True) v (openP l).1 ∧ Below w.heap.size w w' := by
  have HR0 := Aside0.mk hr0
  have HC0 := Aside0.mk hc0
  have HS := Aside0.mk hs
  have HLN := Aside0.mk hlen
  have HO := Aside0.mk (show openP l = openP l from rfl)
  conv at HO => arg 1; rhs; unfold openP
  obtain ⟨P, hP⟩ : ∃ P, openP l = P := ⟨_, rfl⟩
  rw [hP] at HO ⊢
  obtain ⟨m, hm, hml⟩ : ∃ m : Nat, (if (8208 : Int) < (l.length : Int) then (8208 : Int) else (l.length : Int)) = (m : Int) ∧ m ≤ l.length ∧ l.take m = l.take 8208 := by
    by_cases h : (8208 : Int) < (l.length : Int)
    · exact ⟨8208, if_pos h, by omega, rfl⟩
    · exact ⟨l.length, if_neg h, Nat.le_refl _, by rw [List.take_of_length_le (Nat.le_refl _), List.take_of_length_le (by omega)]⟩
  have hbt := bytesP_le (l.take 8208) 0 8192 (Nat.zero_le _)
  have htl : (l.take 8208).length ≤ l.length := List.length_take_le' _ _
  obtain ⟨hcut, hCt, hlt⟩ := cut_take A0 c0 l m HR0.out HC0.out hml.1
  rw [hml.2] at hcut hCt hlt
  have HSy := Aside0.mk (Bs.take hs 8208)
  generalize l.take 8208 = y at *
  obtain ⟨q, hq⟩ : ∃ q, bytesP y 0 8192 = q := ⟨_, rfl⟩
  rw [hq] at HO hbt
  have HQ := Aside0.mk hq
  have HCt := Aside0.mk hCt
  have HLt := Aside0.mk hlt
  obtain ⟨d, n, er⟩ := q
  replace hbt : n ≤ y.length := hbt
  have HYL := Aside0.mk (show y.length < 140737488355328 by omega)
  have HBT := Aside0.mk (show n ≤ l.length by omega)
  clear hr0 hc0 hs hlen hP hml hbt htl hCt hlt hq
  go_enter Try.func24, Try.ntmps24
  go_wp2_with (fail)
  refine (Read_calls A0 c0 y _ HCt.out HLt.out HYL.out).mono ?_
  rintro e w2 ⟨w1, g, rfl, hI, hB1, hB⟩
  have HB1 := Aside0.mk hB1
  have HI2 := Aside0.mk hI
  have HB2 := Aside0.mk hB
  clear hB1 hI hB
  go_wp2_with (fail)
  refine (Bytes_calls g y 0 8192 (by omega) w1 _ HI2.out HB2.out HSy.out HYL.out (Nat.zero_le _)).mono ?_
  rintro e w3 ⟨v, rfl, hR, hI, hB, hK⟩
  rw [HQ.out] at hR hI
  have HR := Aside0.mk hR
  have HI := Aside0.mk hI
  have HB := Aside0.mk hB
  have HK := Aside0.mk hK
  have HE := Aside0.mk (show wire_Reader_Err.f y (n : Int) er true = some (er, (n : Int), er, true) from rfl)
  have HZ2 := Aside0.mk (below_step HB1.out HB2.out).size
  clear hR hI hB hK HI2 HB2 HQ
  go_wp2_with (fail)
  refine (wire_Reader_Err.calls g y _ _ _ _ _ _ _ w1 _ HI.out HB.out HE.out).mono ?_
  rintro e w4 ⟨rfl, hI, hB, hK⟩
  have HI4 := Aside0.mk hI
  have HBW := Aside0.mk (below_step HB1.out hB)
  have HR4 := Aside0.mk (Kd.R_mono (ok' := fun _ => True) (Kd.R_lower (Kd.R_keep HR.out hK (fun k hk => hk)) HZ2.out) (fun _ _ => trivial))
  clear hI hB hK HR HI HB HK HB1 HE
  by_cases c0 : er = 0
  · subst c0
    have HN := Aside0.mk HBT.out
    obtain ⟨AS, cS, HG, hg, HSx⟩ := HI4.out
    have hc_1 := cellS62_1 HG
    clear HG hg HSx
    have hw1 : wrap64 ((l.length : Int) - (n : Int)) = (l.length : Int) - (n : Int) := by have h1 := HLN.out; have h2 := HBT.out; unfold wrap64; omega
    by_cases c1 : l.length < n + 4
    · have hP : P = ([], 0, 2) := by have h := HO.out; simp only [ne_eq, not_true_eq_false, if_false] at h; rw [if_pos c1] at h; exact h
      subst hP
      have c1b : decide ((l.length : Int) - (n : Int) < 4) = true := decide_eq_true (by clear hw1; omega)
      have HC1 := Aside0.mk c1
      clear c1
      go_wp2_with (fail)
      go_ret3
      exact ⟨_, rfl, Kd.R_nil _ _ _ _ _, HBW.out⟩
    · have hO2 : P = if fourP (sumP (l.take n)) = (l.drop n).take 4 then (d, n + 4, 0) else ([], 0, 11) := by have h := HO.out; simp only [ne_eq, not_true_eq_false, if_false] at h; rw [if_neg c1] at h; exact h
      have HO2 := Aside0.mk hO2
      have c1b : decide ((l.length : Int) - (n : Int) < 4) = false := decide_eq_false (by clear hw1; omega)
      have HC1 := Aside0.mk c1
      obtain ⟨hcut2, hCs, hls⟩ := cut_take A0 c0 l n HR0.out HC0.out HBT.out
      have HSUM := Aside0.mk (Sum_eq (l.take n) (Bs.take HS.out n) (by rw [List.length_take]; have := HLN.out; clear hw1; omega) (10 * (l.take n).length + 1) (Nat.lt_succ_self _))
      have HCs := Aside0.mk (Kd.C_below hCs HBW.out)
      have HLs := Aside0.mk hls
      clear c1 hO2 hCs hls HO
      generalize l.take n = ys at *
      go_wp2_with (fail)
      refine (wire_Sum.calls _ A0 c0 ys _ _ HCs.out HLs.out HSUM.out).mono ?_
      rintro e w5 ⟨rfl, ⟨nd, rfl⟩⟩
      clear hc_1 hcut2
      go_wp2_with (fail)
      refine (wire_four.calls (sumP ys) (fourP (sumP ys)) _ rfl).mono ?_
      rintro e w6 ⟨v4, rfl, h4, hb⟩
      have HB6 := Aside0.mk (below_step (pw_below_drewN HBW.out nd) hb)
      have HR6 := Aside0.mk (Kd.R_below (Kd.R_drewN HR4.out nd) hb)
      obtain ⟨A4, c4, hv4⟩ := Kd.R_slice h4
      subst hv4
      have H4 := Aside0.mk h4
      have hx4 : (fourP (sumP ys)).length = 4 := rfl
      clear h4 hb HBW HR4 HSUM HCs HLs
      generalize fourP (sumP ys) = x4 at *
      have HX4 := Aside0.mk hx4
      go_wp2_with (fail)
      go_loopw [41] (fun v41 wr => ∃ j : Nat, j ≤ 4 ∧ v41 = .int .i64 (j : Int) ∧ Aside0 (∀ i, i < j → rd l ((n + i : Nat) : Int) = rd x4 (i : Int)) ∧ Aside0 (Below w6.heap.size w6 wr)) (fun v41 _ => (4 - intOf v41).toNat)
      case atStart => exact ⟨0, by omega, rfl, ⟨fun i hi => absurd hi (Nat.not_lt_zero _)⟩, ⟨Below.refl _ _⟩⟩
      case round =>
        obtain ⟨j, hj, rfl, HF, HB⟩ := hrel
        have hjl : x4.length = 4 := hx4
        by_cases hlt : j < 4
        · obtain ⟨p, hp⟩ : ∃ p : Nat, n + j = p := ⟨_, rfl⟩
          have hpl : p < l.length := by have := HC1.out; omega
          have hj4 : j < x4.length := by omega
          obtain ⟨ad, e0, hx⟩ := Kd.at_int HR0.out (p : Int) (by omega) (by omega)
          cases e0
          obtain ⟨ad4, e4, hy⟩ := Kd.at_int (Kd.R_reads' H4.out).2.2 (j : Int) (by omega) (by omega)
          cases e4
          have HWR := Aside0.mk (below_step HB6.out HB.out)
          replace hx := (HWR.out.cell (World.block_lt_of_cell? _ _ hx)).trans hx
          replace hy := (HB.out.cell (World.block_lt_of_cell? _ _ hy)).trans hy
          rw [Int.toNat_natCast] at hx hy
          have hw2 : wrap64 ((n : Int) + (j : Int)) = (p : Int) := wrap64_sum hp (by have := HLN.out; clear hw1; omega)
          have hw3 : wrap64 ((j : Int) + 1) = ((j + 1 : Nat) : Int) := by clear hw1 hw2; unfold wrap64; omega
          have HFJ := Aside0.mk (show ∀ b : Int, rd l (p : Int) = b → rd x4 (j : Int) = b → ∀ i, i < j + 1 → rd l ((n + i : Nat) : Int) = rd x4 (i : Int) from fun b h1 h2 i hi => by
            rcases Nat.lt_or_ge i j with h | h
            · exact HF.out i h
            · obtain rfl : i = j := by omega
              rw [hp, h1, h2])
          have HNE := Aside0.mk (show rd l (p : Int) ≠ rd x4 (j : Int) → x4 ≠ (l.drop n).take 4 from fun h => four_not (i := j) HX4.out (by have := HC1.out; clear hw1 hw2 hw3; omega) hlt (by rw [hp]; exact h))
          have HP := Aside0.mk hp
          have HLT := Aside0.mk hlt
          clear hp hlt
          generalize rd l (p : Int) = b1 at *
          generalize rd x4 (j : Int) = b2 at *
          by_cases hb : b1 = b2
          · subst hb
            have hbb : (b1 != b1) = false := by simp
            go_wp2
            go_roundw
            case rel => exact ⟨j + 1, HLT.out, rfl, ⟨HFJ.out b1 rfl rfl⟩, HB⟩
            case measure => simp [intOf]; have := HLT.out; clear hw1 hw2 hw3; omega
          · have hbb : (b1 != b2) = true := bne_iff_ne.mpr hb
            have hP : P = ([], 0, 11) := by rw [HO2.out, if_neg (HNE.out hb)]
            subst hP
            clear hb
            go_wp2
            go_ret3
            exact ⟨_, rfl, Kd.R_nil _ _ _ _ _, HWR.out⟩
        · obtain rfl : j = 4 := by omega
          have hP : P = (d, n + 4, 0) := by rw [HO2.out, if_pos (four_all HX4.out (by have := HC1.out; clear hw1; omega) HF.out)]
          subst hP
          have hw2 : wrap64 ((n : Int) + 4) = ((n + 4 : Nat) : Int) := by have h1 := HLN.out; have h2 := HBT.out; clear hw1; unfold wrap64; omega
          have HWR := Aside0.mk (below_step HB6.out HB.out)
          go_wp2
          go_ret3
          exact ⟨_, rfl, Kd.R_below HR6.out HB.out, HWR.out⟩
  · have hP : P = ([], 0, er) := by have h := HO.out; rw [if_pos c0] at h; exact h
    subst hP
    have c0b : (er != 0) = true := bne_iff_ne.mpr c0
    go_wp2_with (fail)
    go_ret3
    exact ⟨_, rfl, Kd.R_nil _ _ _ _ _, HBW.out⟩
end Go.Proofs.Ytleaiojilmkhaaa.Wire
