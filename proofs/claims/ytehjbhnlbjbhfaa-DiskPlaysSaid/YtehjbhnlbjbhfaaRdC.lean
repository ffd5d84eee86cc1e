/- Contract of the document's disk: Fall. -/
import Derived.Test.YtehjbhnlbjbhfaaRdB
import Derived.Test.YtehjbhnlbjbhfaaDkE
import Derived.Lib.Strings
namespace Go.Proofs.Ytehjbhnlbjbhfaa.Rd
open Go Go.RowKit Go.Proofs.YtehjbhnlbjbhfaaW.PrintWords Go.Proofs.YtehjbhnlbjbhfaaW.PrintLast Go.Proofs.YtehjbhnlbjbhfaaW.PrintMore Go.Proofs.Ytehjbhnlbjbhfaa.Dk
attribute [local go_sem] max2_int min2_int max_two min_two
set_option linter.unusedVariables false
set_option linter.unusedSimpArgs false
theorem mid_setF (s : DS) (keep : List Int) {i : Nat} (hi : i < 8) : midS s keep (i + 1) = setF (midS s keep i) i (afterP (fl s i) (kv keep i)) := mid_set s keep hi
theorem byte_eq {s t : ByteArray} (h : s.data.toList = t.data.toList) : s = t := by
  cases s; cases t; congr 1; exact Array.toList_inj.1 h
theorem ext_data (s : ByteArray) (a b : Nat) : (s.extract a b).data.toList = (s.data.toList.take b).drop a := by
  rw [Go.Lib.extract_data, List.drop_take]
theorem ext_min (l : List Int) (k : Nat) : (strOfNums l).extract 0 (if l.length < k then (l.length : Int) else (k : Int)).toNat = strOfNums (l.take k) := by
  apply byte_eq
  rw [ext_data, List.drop_zero, strOfNums_data, strOfNums_data, List.map_take]
  by_cases c : l.length < k
  · rw [if_pos c, Int.toNat_natCast, List.take_of_length_le (by simp), List.take_of_length_le (by simp; omega)]
  · rw [if_neg c, Int.toNat_natCast]
theorem ext_nums (l : List Int) (a b : Nat) : (strOfNums l).extract a b = strOfNums ((l.take b).drop a) :=
  byte_eq (by rw [ext_data, strOfNums_data, strOfNums_data, List.map_drop, List.map_take])
theorem app_nums (l m : List Int) : strOfNums l ++ strOfNums m = strOfNums (l ++ m) :=
  byte_eq (by rw [strOfNums_data, List.map_append]; simp [strOfNums])
set_option maxHeartbeats 8000000 in
set_option maxRecDepth 100000 in
theorem RFall_calls (G : Nat → Prop) (x : Nat) (s : DS) (kV : Value) (keep : List Int) (w : World) (h : IsX G w x s) (hok : Ok s) (hk : Rw (fun b => b = x) .i64 w kV keep) (hkr : ∀ x ∈ keep, -9223372036854775808 ≤ x ∧ x ≤ 9223372036854775807) :
    Calls Try.prog 67 #[.pointer (some ⟨x, 0, none⟩), kV] w fun e w' => e = .returned (.tuple #[]) ∧ IsX G w' x (fallP s keep) ∧ Wr x w w' := by
  have HOK := Aside0.mk hok
  have HK := Aside0.mk hk
  have HKR := Aside0.mk (fun i => kv_range hkr i)
  have HW := Aside0.mk (Wr.refl x w)
  have HIN := Aside0.mk h
  obtain ⟨A0, c0, rfl, _, _⟩ := hk.slice
  have hm := Kd.C_max (Kd.V_reads' hk).2.2
  obtain ⟨_, _, kv0, hA, hR⟩ := h
  have HFC := Aside0.mk (xfiles_cells hA)
  have HFL := Aside0.mk (xfiles_len hA.1)
  have HIX := Aside0.mk (fun (k : Nat) (hk : k < 8) (W : World) => (xfiles_index hA.1 hk W).trans (by rw [toXV_f hok.len hk]))
  have HKV := Aside0.mk hR
  have H0 := Aside0.mk (show AtX w x (toXV (midS s keep 0) kv0) by unfold midS; rw [midFs_0 s keep hok.len]; exact hA)
  clear hA hR hok hk hkr
  generalize (toXV s kv0).fs.flatMap XF.cells = X at HFC HFL HIX
  go_enter Try.func67, Try.ntmps67
  go_wp2_with (refine wpList_load_seg (P := Try.prog) rfl 105 (.tmp 11) rfl x 0 rfl X _ HFC.out Try.underlying105 rfl (by rw [HFL.out]; kernel_rfl) ?_)
  go_loopw [13] (fun v13 wr => ∃ i : Nat, i ≤ 8 ∧ v13 = .int .i64 (i : Int) ∧ Aside0 (AtX wr x (toXV (midS s keep i) kv0)) ∧ Aside0 (Wr x w wr)) (fun v13 _ => (8 - intOf v13).toNat)
  case atStart => exact ⟨0, by omega, rfl, H0, HW⟩
  case round =>
    obtain ⟨i, hi, rfl, HA, HW⟩ := hrel
    clear H0
    by_cases hlt : i < 8
    · have ix : ∀ W : World, (Instr.index 105 (.agg X.toArray) (.int .i64 (i : Int))).run Try.prog W = .ok (.agg #[.string (strOfNums (fl s i).seen), .string (strOfNums (fl s i).lasts), .bool (fl s i).cl]) W := fun W => HIX.out i hlt W
      have hct := HA.out.told hlt
      have hcl := HA.out.lasts hlt
      have hcc := HA.out.cl hlt
      have hft := HA.out.frozen (i * 3)
      have hfl := HA.out.frozen (i * 3 + 1)
      have hfc := HA.out.frozen (i * 3 + 2)
      have HST := Aside0.mk (mid_setF s keep hlt)
      have hz1 := strOfNums_size (fl s i).seen
      have hz2 := strOfNums_size (fl s i).lasts
      have HPR := Aside0.mk (HOK.out.pre _ (HOK.out.fl_mem hlt))
      have HSL := Aside0.mk (HOK.out.seen_le hlt)
      have HAF : Aside0 (∀ k, afterP (fl s i) k = if 0 ≤ k then (if (fl s i).cl = true then ⟨(fl s i).seen.take k.toNat, (fl s i).seen.take k.toNat, false⟩ else ⟨(fl s i).seen.take ((fl s i).lasts.length + k.toNat), (fl s i).seen.take ((fl s i).lasts.length + k.toNat), false⟩) else ⟨(fl s i).lasts, (fl s i).lasts, false⟩) := ⟨fun _ => rfl⟩
      replace hct := fun o => ((below_alloc (Below.refl wr.heap.size wr) o).cell (World.block_lt_of_cell? wr _ hct)).trans hct
      replace hcl := fun o => ((below_alloc (Below.refl wr.heap.size wr) o).cell (World.block_lt_of_cell? wr _ hcl)).trans hcl
      replace hcc := fun o => ((below_alloc (Below.refl wr.heap.size wr) o).cell (World.block_lt_of_cell? wr _ hcc)).trans hcc
      have HAO := Aside0.mk (fun o => HA.out.same (W' := wr.alloc o) ((below_alloc (Below.refl wr.heap.size wr) o).block x HA.out.lt))
      replace hft := fun o => (HAO.out o).frozen (i * 3)
      replace hfl := fun o => (HAO.out o).frozen (i * 3 + 1)
      replace hfc := fun o => (HAO.out o).frozen (i * 3 + 2)
      generalize (XV.f _ i).told = ot at hct
      generalize (XV.f _ i).lasts = ol at hcl
      generalize (XV.f _ i).cl = oc at hcc
      generalize fl s i = f at *
      obtain ⟨sn, ls, cl⟩ := f
      simp only at ix hz1 hz2
      by_cases hkl : i < keep.length
      case' pos =>
        obtain ⟨ad, e0, hcell⟩ := Kd.at_int (Kd.V_reads' (Kd.V_step HK.out (fun b hb hlt => HW.out.block b hlt (fun e => hb e)))).2.2 (i : Int) (by omega) (by omega)
        cases e0
        rw [Int.toNat_natCast] at hcell
        have HKE := Aside0.mk (show kv keep i = rd keep (i : Int) by unfold kv; rw [if_pos hkl])
        rw [← HKE.out] at hcell
        replace hcell := fun o => ((below_alloc (Below.refl wr.heap.size wr) o).cell (World.block_lt_of_cell? wr _ hcell)).trans hcell
      case' neg =>
        have HKE := Aside0.mk (show kv keep i = -1 by unfold kv; rw [if_neg hkl])
      case pos =>
        have HKQ := Aside0.mk (HAF.out (kv keep i))
        generalize kv keep i = k at *
        by_cases ck : 0 ≤ k
        · obtain ⟨kn, rfl⟩ := Int.eq_ofNat_of_zero_le ck
          cases cl with
          | true =>
            go_wp2_with (fail)
            have HQ := Aside0.mk (HKQ.out.trans ((if_pos (by omega)).trans (if_pos rfl)))
            rw [Int.toNat_natCast] at HQ
            rw [HQ.out] at HST
            have HE := Aside0.mk (ext_min sn kn)
            go_roundw
            case rel => exact ⟨i + 1, by omega, by go_num, ⟨by rw [HE.out, HST.out]; exact (HAO.out _).whole hlt _ _ _⟩, ⟨(((HW.out.trans (Wr.of_below (below_alloc (Below.refl _ wr) _))).set _ _).set _ _).set _ _⟩⟩
            case measure => simp [intOf]; omega
          | false =>
            obtain ⟨t, ht⟩ := HPR.out rfl
            simp only at ht
            have hpf : ls.length ≤ sn.length := by rw [ht, List.length_append]; omega
            have hzt := strOfNums_size t
            have HEX := Aside0.mk (show (strOfNums sn).extract ls.length sn.length = strOfNums t by rw [ext_nums, List.take_length, ht, List.drop_left])
            have HTT := Aside0.mk ht
            clear ht
            go_wp2_with (fail)
            rw [HEX.out]
            have hle1 : (0 : Int) ≤ (if t.length < kn then (t.length : Int) else (kn : Int)) := by split <;> omega
            have hle2 : (if t.length < kn then (t.length : Int) else (kn : Int)) ≤ (t.length : Int) := by split <;> omega
            have hle3 : ¬ 9223372036854775807 < ls.length + (if t.length < kn then (t.length : Int) else (kn : Int)).toNat := by
              have h1 : sn.length ≤ 4194304 := HSL.out
              rw [HTT.out, List.length_append] at h1
              split <;> omega
            go_quiet (fail)
            go_wp2_with (fail)
            have HQ := Aside0.mk (HKQ.out.trans ((if_pos (by omega)).trans (if_neg (show ¬ (false = true) by decide))))
            rw [Int.toNat_natCast] at HQ
            rw [HQ.out] at HST
            have HE := Aside0.mk (show strOfNums ls ++ (strOfNums t).extract 0 (if t.length < kn then (t.length : Int) else (kn : Int)).toNat = strOfNums (sn.take (ls.length + kn)) by
              rw [ext_min t kn, app_nums, HTT.out, List.take_append, List.take_of_length_le (show ls.length ≤ ls.length + kn by omega), Nat.add_sub_cancel_left])
            go_roundw
            case rel => exact ⟨i + 1, by omega, by go_num, ⟨by rw [HE.out, HST.out]; exact AtX.whole (W := (wr.alloc (.cells #[.string (strOfNums sn), .string (strOfNums ls), .bool false] 104)).drewN nq) ⟨(HAO.out (.cells #[.string (strOfNums sn), .string (strOfNums ls), .bool false] 104)).1, (HAO.out (.cells #[.string (strOfNums sn), .string (strOfNums ls), .bool false] 104)).2⟩ hlt _ _ _⟩, ⟨(((HW.out.trans (Wr.of_below (pw_below_drewN (below_alloc (Below.refl _ wr) _) nq))).set _ _).set _ _).set _ _⟩⟩
            case measure => simp [intOf]; omega
        · have ck2 : decide (0 ≤ k) = false := decide_eq_false ck
          go_wp2_with (fail)
          have HQ := Aside0.mk (HKQ.out.trans (if_neg ck))
          rw [HQ.out] at HST
          go_roundw
          case rel => exact ⟨i + 1, by omega, by go_num, ⟨by rw [HST.out]; exact (HAO.out _).whole hlt _ _ _⟩, ⟨(((HW.out.trans (Wr.of_below (below_alloc (Below.refl _ wr) _))).set _ _).set _ _).set _ _⟩⟩
          case measure => simp [intOf]; omega
      case neg =>
        have HQ := Aside0.mk ((HAF.out (-1)).trans (if_neg (by decide)))
        rw [HKE.out, HQ.out] at HST
        go_wp2_with (fail)
        go_roundw
        case rel => exact ⟨i + 1, by omega, by go_num, ⟨by rw [HST.out]; exact (HAO.out _).whole hlt _ _ _⟩, ⟨(((HW.out.trans (Wr.of_below (below_alloc (Below.refl _ wr) _))).set _ _).set _ _).set _ _⟩⟩
        case measure => simp [intOf]; omega
    · obtain rfl : i = 8 := by omega
      have hc25 := HA.out.c25
      have hc26 := HA.out.c26
      have hc27 := HA.out.c27
      have hf25 := HA.out.frozen 25
      have hf26 := HA.out.frozen 26
      have hf27 := HA.out.frozen 27
      replace hc27 : wr.cell? ⟨x, 27, none⟩ = some kv0 := hc27
      obtain ⟨A1, c1, hk0, _, _⟩ := (show Rw G .i64 w kv0 s.keep from HKV.out).slice
      rw [hk0] at hc27
      generalize (toXV (midS s keep 8) kv0).off = oo at hc25
      generalize (toXV (midS s keep 8) kv0).fuse = ff at hc26
      clear hk0
      go_wp2_with (fail)
      first | go_end0 | ((try simp only [Exit.inBlock, Exit.then]); refine bodyPost_ret (results_none rfl _ _ _) rfl ?_)
      have hw := ((HW.out.set 25 (.bool true)).set 26 (.int .i64 0)).set 27 (.slice none 0 0)
      refine ⟨rfl, ⟨fun b hb => Nat.lt_of_lt_of_le (HIN.out.lt b hb) hw.size, HIN.out.gg, .slice none 0 0, ?_, Rw.nil _ _ _⟩, hw⟩
      have ha := ((HA.out.set25 true).set26 0).set27 (.slice none 0 0)
      have : ({ ({ ({ toXV (midS s keep 8) kv0 with off := true } : XV) with fuse := 0 } : XV) with kv := .slice none 0 0 } : XV) = toXV (fallP s keep) (.slice none 0 0) := by
        unfold toXV fallP fuseP midS
        rw [midFs_8 s keep HOK.out.len]; rfl
      rw [← this]; exact ha
end Go.Proofs.Ytehjbhnlbjbhfaa.Rd
