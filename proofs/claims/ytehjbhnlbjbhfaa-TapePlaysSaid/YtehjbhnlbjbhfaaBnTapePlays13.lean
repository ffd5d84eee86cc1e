/- Texts that the row of LawTapePlays rests on, part 13 of 15: contracts of the functions, their walks, plain laws. -/
import Derived.Test.YtehjbhnlbjbhfaaBnTapePlays12
import Derived.Lib.Strings
-- RdC
namespace Go.Proofs.Ytehjbhnlbjbhfaa.Rd
open Go Go.RowKit Go.Proofs.YtehjbhnlbjbhfaaW.PrintWords Go.Proofs.YtehjbhnlbjbhfaaW.PrintLast Go.Proofs.YtehjbhnlbjbhfaaW.PrintMore Go.Proofs.Ytehjbhnlbjbhfaa.Dk
attribute [local go_sem] max2_int min2_int max_two min_two
set_option linter.unusedVariables false
set_option linter.unusedSimpArgs false
theorem mid_setF (s : DS) (keep : List Int) {i : Nat} (hi : i < 8) : midS s keep (i + 1) = setF (midS s keep i) i (afterP (fl s i) (kv keep i)) := mid_set s keep hi
theorem byte_eq {s t : ByteArray} (h : s.data.toList = t.data.toList) : s = t := by
  cases s; cases t; congr 1; exact Array.toList_inj.1 h
theorem ext_data (s : ByteArray) (a b : Nat) : (s.extract a b).data.toList = (s.data.toList.take b).drop a := by
  rw [Go.Lib.extract_data, List.drop_take]
theorem ext_min (l : List Int) (k : Nat) : (strOfNums l).extract 0 (if l.length < k then (l.length : Int) else (k : Int)).toNat = strOfNums (l.take k) := by
  apply byte_eq
  rw [ext_data, List.drop_zero, strOfNums_data, strOfNums_data, List.map_take]
  by_cases c : l.length < k
  · rw [if_pos c, Int.toNat_natCast, List.take_of_length_le (by simp), List.take_of_length_le (by simp; omega)]
  · rw [if_neg c, Int.toNat_natCast]
theorem ext_nums (l : List Int) (a b : Nat) : (strOfNums l).extract a b = strOfNums ((l.take b).drop a) :=
  byte_eq (by rw [ext_data, strOfNums_data, strOfNums_data, List.map_drop, List.map_take])
theorem app_nums (l m : List Int) : strOfNums l ++ strOfNums m = strOfNums (l ++ m) :=
  byte_eq (by rw [strOfNums_data, List.map_append]; simp [strOfNums])
set_option maxHeartbeats 8000000 in
set_option maxRecDepth 100000 in
theorem RFall_calls (G : Nat → Prop) (x : Nat) (s : DS) (kV : Value) (keep : List Int) (w : World) (h : IsX G w x s) (hok : Ok s) (hk : Rw (fun b => b = x) .i64 w kV keep) (hkr : ∀ x ∈ keep, -9223372036854775808 ≤ x ∧ x ≤ 9223372036854775807) :
    Calls Try.prog 67 #[.pointer (some ⟨x, 0, none⟩), kV] w fun e w' => e = .returned (.tuple #[]) ∧ IsX G w' x (fallP s keep) ∧ Wr x w w' := by
  have HOK := Aside0.mk hok
  have HK := Aside0.mk hk
  have HKR := Aside0.mk (fun i => kv_range hkr i)
  have HW := Aside0.mk (Wr.refl x w)
  have HIN := Aside0.mk h
  obtain ⟨A0, c0, rfl, _, _⟩ := hk.slice
  have hm := Kd.C_max (Kd.V_reads' hk).2.2
  obtain ⟨_, _, kv0, hA, hR⟩ := h
  have HFC := Aside0.mk (xfiles_cells hA)
  have HFL := Aside0.mk (xfiles_len hA.1)
  have HIX := Aside0.mk (fun (k : Nat) (hk : k < 8) (W : World) => (xfiles_index hA.1 hk W).trans (by rw [toXV_f hok.len hk]))
  have HKV := Aside0.mk hR
  have H0 := Aside0.mk (show AtX w x (toXV (midS s keep 0) kv0) by unfold midS; rw [midFs_0 s keep hok.len]; exact hA)
  clear hA hR hok hk hkr
  generalize (toXV s kv0).fs.flatMap XF.cells = X at HFC HFL HIX
  go_enter Try.func67, Try.ntmps67
  go_wp2_with (refine wpList_load_seg (P := Try.prog) rfl 105 (.tmp 11) rfl x 0 rfl X _ HFC.out Try.underlying105 rfl (by rw [HFL.out]; kernel_rfl) ?_)
  go_loopw [13] (fun v13 wr => ∃ i : Nat, i ≤ 8 ∧ v13 = .int .i64 (i : Int) ∧ Aside0 (AtX wr x (toXV (midS s keep i) kv0)) ∧ Aside0 (Wr x w wr)) (fun v13 _ => (8 - intOf v13).toNat)
  case atStart => exact ⟨0, by omega, rfl, H0, HW⟩
  case round =>
    obtain ⟨i, hi, rfl, HA, HW⟩ := hrel
    clear H0
    by_cases hlt : i < 8
    · have ix : ∀ W : World, (Instr.index 105 (.agg X.toArray) (.int .i64 (i : Int))).run Try.prog W = .ok (.agg #[.string (strOfNums (fl s i).seen), .string (strOfNums (fl s i).lasts), .bool (fl s i).cl]) W := fun W => HIX.out i hlt W
      have hct := HA.out.told hlt
      have hcl := HA.out.lasts hlt
      have hcc := HA.out.cl hlt
      have hft := HA.out.frozen (i * 3)
      have hfl := HA.out.frozen (i * 3 + 1)
      have hfc := HA.out.frozen (i * 3 + 2)
      have HST := Aside0.mk (mid_setF s keep hlt)
      have hz1 := strOfNums_size (fl s i).seen
      have hz2 := strOfNums_size (fl s i).lasts
      have HPR := Aside0.mk (HOK.out.pre _ (HOK.out.fl_mem hlt))
      have HSL := Aside0.mk (HOK.out.seen_le hlt)
      have HAF : Aside0 (∀ k, afterP (fl s i) k = if 0 ≤ k then (if (fl s i).cl = true then ⟨(fl s i).seen.take k.toNat, (fl s i).seen.take k.toNat, false⟩ else ⟨(fl s i).seen.take ((fl s i).lasts.length + k.toNat), (fl s i).seen.take ((fl s i).lasts.length + k.toNat), false⟩) else ⟨(fl s i).lasts, (fl s i).lasts, false⟩) := ⟨fun _ => rfl⟩
      replace hct := fun o => ((below_alloc (Below.refl wr.heap.size wr) o).cell (World.block_lt_of_cell? wr _ hct)).trans hct
      replace hcl := fun o => ((below_alloc (Below.refl wr.heap.size wr) o).cell (World.block_lt_of_cell? wr _ hcl)).trans hcl
      replace hcc := fun o => ((below_alloc (Below.refl wr.heap.size wr) o).cell (World.block_lt_of_cell? wr _ hcc)).trans hcc
      have HAO := Aside0.mk (fun o => HA.out.same (W' := wr.alloc o) ((below_alloc (Below.refl wr.heap.size wr) o).block x HA.out.lt))
      replace hft := fun o => (HAO.out o).frozen (i * 3)
      replace hfl := fun o => (HAO.out o).frozen (i * 3 + 1)
      replace hfc := fun o => (HAO.out o).frozen (i * 3 + 2)
      generalize (XV.f _ i).told = ot at hct
      generalize (XV.f _ i).lasts = ol at hcl
      generalize (XV.f _ i).cl = oc at hcc
      generalize fl s i = f at *
      obtain ⟨sn, ls, cl⟩ := f
      simp only at ix hz1 hz2
      by_cases hkl : i < keep.length
      case' pos =>
        obtain ⟨ad, e0, hcell⟩ := Kd.at_int (Kd.V_reads' (Kd.V_step HK.out (fun b hb hlt => HW.out.block b hlt (fun e => hb e)))).2.2 (i : Int) (by omega) (by omega)
        cases e0
        rw [Int.toNat_natCast] at hcell
        have HKE := Aside0.mk (show kv keep i = rd keep (i : Int) by unfold kv; rw [if_pos hkl])
        rw [← HKE.out] at hcell
        replace hcell := fun o => ((below_alloc (Below.refl wr.heap.size wr) o).cell (World.block_lt_of_cell? wr _ hcell)).trans hcell
      case' neg =>
        have HKE := Aside0.mk (show kv keep i = -1 by unfold kv; rw [if_neg hkl])
      case pos =>
        have HKQ := Aside0.mk (HAF.out (kv keep i))
        generalize kv keep i = k at *
        by_cases ck : 0 ≤ k
        · obtain ⟨kn, rfl⟩ := Int.eq_ofNat_of_zero_le ck
          cases cl with
          | true =>
            go_wp2_with (fail)
            have HQ := Aside0.mk (HKQ.out.trans ((if_pos (by omega)).trans (if_pos rfl)))
            rw [Int.toNat_natCast] at HQ
            rw [HQ.out] at HST
            have HE := Aside0.mk (ext_min sn kn)
            go_roundw
            case rel => exact ⟨i + 1, by omega, by go_num, ⟨by rw [HE.out, HST.out]; exact (HAO.out _).whole hlt _ _ _⟩, ⟨(((HW.out.trans (Wr.of_below (below_alloc (Below.refl _ wr) _))).set _ _).set _ _).set _ _⟩⟩
            case measure => simp [intOf]; omega
          | false =>
            obtain ⟨t, ht⟩ := HPR.out rfl
            simp only at ht
            have hpf : ls.length ≤ sn.length := by rw [ht, List.length_append]; omega
            have hzt := strOfNums_size t
            have HEX := Aside0.mk (show (strOfNums sn).extract ls.length sn.length = strOfNums t by rw [ext_nums, List.take_length, ht, List.drop_left])
            have HTT := Aside0.mk ht
            clear ht
            go_wp2_with (fail)
            rw [HEX.out]
            have hle1 : (0 : Int) ≤ (if t.length < kn then (t.length : Int) else (kn : Int)) := by split <;> omega
            have hle2 : (if t.length < kn then (t.length : Int) else (kn : Int)) ≤ (t.length : Int) := by split <;> omega
            have hle3 : ¬ 9223372036854775807 < ls.length + (if t.length < kn then (t.length : Int) else (kn : Int)).toNat := by
              have h1 : sn.length ≤ 4194304 := HSL.out
              rw [HTT.out, List.length_append] at h1
              split <;> omega
            go_quiet (fail)
            go_wp2_with (fail)
            have HQ := Aside0.mk (HKQ.out.trans ((if_pos (by omega)).trans (if_neg (show ¬ (false = true) by decide))))
            rw [Int.toNat_natCast] at HQ
            rw [HQ.out] at HST
            have HE := Aside0.mk (show strOfNums ls ++ (strOfNums t).extract 0 (if t.length < kn then (t.length : Int) else (kn : Int)).toNat = strOfNums (sn.take (ls.length + kn)) by
              rw [ext_min t kn, app_nums, HTT.out, List.take_append, List.take_of_length_le (show ls.length ≤ ls.length + kn by omega), Nat.add_sub_cancel_left])
            go_roundw
            case rel => exact ⟨i + 1, by omega, by go_num, ⟨by rw [HE.out, HST.out]; exact AtX.whole (W := (wr.alloc (.cells #[.string (strOfNums sn), .string (strOfNums ls), .bool false] 104)).drewN nq) ⟨(HAO.out (.cells #[.string (strOfNums sn), .string (strOfNums ls), .bool false] 104)).1, (HAO.out (.cells #[.string (strOfNums sn), .string (strOfNums ls), .bool false] 104)).2⟩ hlt _ _ _⟩, ⟨(((HW.out.trans (Wr.of_below (pw_below_drewN (below_alloc (Below.refl _ wr) _) nq))).set _ _).set _ _).set _ _⟩⟩
            case measure => simp [intOf]; omega
        · have ck2 : decide (0 ≤ k) = false := decide_eq_false ck
          go_wp2_with (fail)
          have HQ := Aside0.mk (HKQ.out.trans (if_neg ck))
          rw [HQ.out] at HST
          go_roundw
          case rel => exact ⟨i + 1, by omega, by go_num, ⟨by rw [HST.out]; exact (HAO.out _).whole hlt _ _ _⟩, ⟨(((HW.out.trans (Wr.of_below (below_alloc (Below.refl _ wr) _))).set _ _).set _ _).set _ _⟩⟩
          case measure => simp [intOf]; omega
      case neg =>
        have HQ := Aside0.mk ((HAF.out (-1)).trans (if_neg (by decide)))
        rw [HKE.out, HQ.out] at HST
        go_wp2_with (fail)
        go_roundw
        case rel => exact ⟨i + 1, by omega, by go_num, ⟨by rw [HST.out]; exact (HAO.out _).whole hlt _ _ _⟩, ⟨(((HW.out.trans (Wr.of_below (below_alloc (Below.refl _ wr) _))).set _ _).set _ _).set _ _⟩⟩
        case measure => simp [intOf]; omega
    · obtain rfl : i = 8 := by omega
      have hc25 := HA.out.c25
      have hc26 := HA.out.c26
      have hc27 := HA.out.c27
      have hf25 := HA.out.frozen 25
      have hf26 := HA.out.frozen 26
      have hf27 := HA.out.frozen 27
      replace hc27 : wr.cell? ⟨x, 27, none⟩ = some kv0 := hc27
      obtain ⟨A1, c1, hk0, _, _⟩ := (show Rw G .i64 w kv0 s.keep from HKV.out).slice
      rw [hk0] at hc27
      generalize (toXV (midS s keep 8) kv0).off = oo at hc25
      generalize (toXV (midS s keep 8) kv0).fuse = ff at hc26
      clear hk0
      go_wp2_with (fail)
      first | go_end0 | ((try simp only [Exit.inBlock, Exit.then]); refine bodyPost_ret (results_none rfl _ _ _) rfl ?_)
      have hw := ((HW.out.set 25 (.bool true)).set 26 (.int .i64 0)).set 27 (.slice none 0 0)
      refine ⟨rfl, ⟨fun b hb => Nat.lt_of_lt_of_le (HIN.out.lt b hb) hw.size, HIN.out.gg, .slice none 0 0, ?_, Rw.nil _ _ _⟩, hw⟩
      have ha := ((HA.out.set25 true).set26 0).set27 (.slice none 0 0)
      have : ({ ({ ({ toXV (midS s keep 8) kv0 with off := true } : XV) with fuse := 0 } : XV) with kv := .slice none 0 0 } : XV) = toXV (fallP s keep) (.slice none 0 0) := by
        unfold toXV fallP fuseP midS
        rw [midFs_8 s keep HOK.out.len]; rfl
      rw [← this]; exact ha
end Go.Proofs.Ytehjbhnlbjbhfaa.Rd
-- RdD
namespace Go.Proofs.Ytehjbhnlbjbhfaa.Rd
open Go Go.RowKit Go.Proofs.YtehjbhnlbjbhfaaW.PrintWords Go.Proofs.YtehjbhnlbjbhfaaW.PrintLast Go.Proofs.YtehjbhnlbjbhfaaW.PrintMore Go.Proofs.Ytehjbhnlbjbhfaa.Dk
open Go.Proofs.Ytehjbhnlbjbhfaa.PDiskBegins
attribute [local go_sem] max2_int min2_int max_two min_two
set_option linter.unusedVariables false
set_option linter.unusedSimpArgs false
theorem IsX.drN {G : Nat → Prop} {x : Nat} {W : World} {s : DS} (h : IsX G W x s) (n : Nat) : IsX G (W.drewN n) x s := h.below (pw_below_drewN (Below.refl _ _) n)
theorem IsX.ltg {G : Nat → Prop} {x : Nat} {W : World} {s : DS} (h : IsX G W x s) : x < W.heap.size := h.lt x h.gg
theorem able_may {s : DS} (h : s.room ≠ 0) : ∀ i, ableP s i = mayP s i := may_able h
theorem may0 (s : DS) : mayP s 0 = if s.off = true then 50 else 0 := by
  unfold mayP
  by_cases c : s.off = true
  · rw [if_pos c, if_pos c]
  · rw [if_neg c, if_neg c]; rfl
theorem Rw.alone {G : Nat → Prop} {k : IntKind} {W : World} {v : Value} {xs : List Int} {x : Nat} (h : Rw G k W v xs) (hg : G x) : Rw (fun b => b = x) k W v xs := h.grow (fun b _ e => e ▸ hg)
set_option maxHeartbeats 8000000 in
set_option maxRecDepth 100000 in
theorem RCrash_calls (G : Nat → Prop) (x : Nat) (s : DS) (kV : Value) (keep : List Int) (w : World) (h : IsX G w x s) (hok : Okk s) (hr : s.room ≠ 0) (hk : Rw (fun b => b = x) .i64 w kV keep) (hkr : I64 keep) : Calls Try.prog 50 #[.pointer (some ⟨x, 0, none⟩), kV] w fun e w' => e = .returned (.int .i64 (crashP s keep).2) ∧ IsX G w' x (crashP s keep).1 ∧ Wr x w w' := by
  have H := Aside0.mk h
  have hf := Aside0.mk (RFall_calls G x s kV keep w h hok.1 hk hkr)
  have HE := Aside0.mk (show crashP s keep = if s.off = true then (s, 50) else (fallP s keep, 0) by
    unfold crashP; rw [able_may hr, may0]
    by_cases c : s.off = true
    · rw [if_pos c, if_pos c, if_pos (by decide)]
    · rw [if_neg c, if_neg c, if_neg (by decide)])
  obtain ⟨_, _, kv, hA, hR⟩ := h
  have hc25 : w.cell? ⟨x, 25, none⟩ = some (.bool s.off) := hA.c25
  obtain ⟨A0, c0, rfl, _, _⟩ := hk.slice
  clear hA hR hok hk hkr
  rw [HE.out]
  by_cases c : s.off = true
  · rw [if_pos c]
    rw [c] at hc25
    clear c
    go_enter Try.func50, Try.ntmps50
    go_wp2_with (fail)
    go_ret
    exact ⟨rfl, H.out, Wr.refl _ _⟩
  · rw [if_neg c]
    rw [show s.off = false by simpa using c] at hc25
    clear c
    go_enter Try.func50, Try.ntmps50
    go_wp2_with (fail)
    refine hf.out.mono ?_
    rintro e w1 ⟨rfl, hI, hW⟩
    have HI := Aside0.mk hI
    have HW := Aside0.mk hW
    clear hI hW
    go_wp2_with (fail)
    go_ret
    exact ⟨rfl, HI.out, HW.out⟩
set_option maxHeartbeats 8000000 in
set_option maxRecDepth 100000 in
theorem RClear_calls (G : Nat → Prop) (x : Nat) (s : DS) (i : Int) (w : World) (h : IsX G w x s) (hok : Okk s) (hr : s.room ≠ 0) : Calls Try.prog 56 #[.pointer (some ⟨x, 0, none⟩), .int .i64 i] w fun e w' => e = .returned (.int .i64 (clearP s i).2) ∧ IsX G w' x (clearP s i).1 ∧ Wr x w w' := by
  have H := Aside0.mk h
  have HOK := Aside0.mk hok
  have HAB := Aside0.mk (may_calls G x s i w h)
  rcases may_cases s i with c | ⟨c, j, hj, rfl, _⟩
  · have HR := Aside0.mk (show clearP s i = (s, mayP s i) by unfold clearP; rw [able_may hr, if_pos c])
    have c1 : (mayP s i != (0 : Int)) = true := by simpa using c
    have c2 : (mayP s i == (0 : Int)) = false := by simpa using c
    rw [HR.out]
    clear h c HR hok
    generalize mayP s i = er at *
    go_enter Try.func56, Try.ntmps56
    go_wp2_with (fail)
    refine (HAB.out).mono ?_
    rintro e w1 ⟨rfl, ⟨nd, rfl⟩⟩
    go_wp2_with (fail)
    go_ret
    exact ⟨rfl, H.out.drN nd, (Wr.refl x w).drew1 nd⟩
  · have HR := Aside0.mk (show clearP s (j : Int) = actP s 1 (doneC j) by unfold clearP; rw [able_may hr, if_neg (by rw [c]; decide), Int.toNat_natCast])
    rw [c] at HAB
    rw [HR.out]
    have HB1 := Aside0.mk (show burnN s 1 = 1 by
      unfold burnN
      by_cases cs : s.set = true ∧ s.left ≤ ((1 : Nat) : Int)
      · rw [if_pos cs]; have := hok.1.fuse cs.1; omega
      · rw [if_neg cs])
    have HAC := Aside0.mk (show actP s 1 (doneC j) = if struckP s 1 = true then (fallP (setF (burnS s 1) j ⟨[], (fl (burnS s 1) j).lasts, true⟩) s.keep, 50) else (setF (burnS s 1) j ⟨[], (fl (burnS s 1) j).lasts, true⟩, 0) by
      unfold actP; rw [HB1.out]; unfold doneC; rw [if_pos rfl])
    obtain ⟨r, hrr⟩ : ∃ r, actP s 1 (doneC j) = r := ⟨_, rfl⟩
    rw [hrr] at HAC ⊢
    clear hrr
    have HBU := Aside0.mk (burn_calls G x s 1 (w.drewN 0) (H.out.drN 0) hok.1 (by decide))
    have HOKB := Aside0.mk (hok.1.burn 1)
    have HKB := Aside0.mk (burn_fs s 1)
    have HOKC := Aside0.mk (show Ok (setF (burnS s 1) j ⟨[], (fl (burnS s 1) j).lasts, true⟩) by
      have := (hok.1.burn 1).doneC hj 1
      unfold doneC at this; rw [if_pos rfl] at this; exact this)
    have HJ := Aside0.mk hj
    have HI64 := Aside0.mk hok.2
    clear h c HR hok
    go_enter Try.func56, Try.ntmps56
    go_wp2_with (fail)
    refine (HAB.out).mono ?_
    rintro e w1 ⟨rfl, ⟨nd, rfl⟩⟩
    go_wp2_with (fail)
    refine (burn_calls G x s 1 _ (H.out.drN nd) HOK.out.1 (by decide)).mono ?_
    rintro e w2 ⟨rfl, hI, hW⟩
    have HI := Aside0.mk hI
    have HW := Aside0.mk (((Wr.refl x w).drew1 nd).trans hW)
    obtain ⟨_, _, kv, hA, hKV⟩ := hI
    have HA := Aside0.mk hA
    have HKV := Aside0.mk hKV
    have hct := hA.told hj
    have hft := hA.frozen (j * 3)
    have hcc := hA.cl hj
    have hfc := hA.frozen (j * 3 + 2)
    have hck : w2.cell? ⟨x, 27, none⟩ = some kv := hA.c27
    obtain ⟨A1, c1, hkv, _, _⟩ := hKV.slice
    rw [hkv] at hck
    have HKE := Aside0.mk hkv
    generalize (XV.f _ j).told = ot at hct
    generalize (XV.f _ j).cl = oc at hcc
    have HA2 := Aside0.mk (show AtX ((w2.setCell ⟨x, j * 3, none⟩ (.string (strOfNums []))).setCell ⟨x, j * 3 + 2, none⟩ (.bool true)) x (toXV (setF (burnS s 1) j ⟨[], (fl (burnS s 1) j).lasts, true⟩) kv) by
      have h1 := hA.tell hj []
      have h2 := h1.clear hj true
      rw [fl_set _ (len_of hA) hj, set_set] at h2
      exact h2)
    have HW2 := Aside0.mk ((HW.out.set (j * 3) (.string (strOfNums []))).set (j * 3 + 2) (.bool true))
    have hse : (ByteArray.mk #[]) = strOfNums [] := rfl
    have HIX := Aside0.mk (show IsX G ((w2.setCell ⟨x, j * 3, none⟩ (.string (strOfNums []))).setCell ⟨x, j * 3 + 2, none⟩ (.bool true)) x (setF (burnS s 1) j ⟨[], (fl (burnS s 1) j).lasts, true⟩) from
      ⟨fun b hb => Nat.lt_of_lt_of_le (HI.out.lt b hb) (by simp), HI.out.gg, kv, HA2.out, HKV.out.wr (((Wr.refl x w2).set (j * 3) (.string (strOfNums []))).set (j * 3 + 2) (.bool true)) HI.out.gg⟩)
    clear hW hA hKV hkv
    cases hst : struckP s 1 with
    | false =>
      have HST := Aside0.mk hst
      clear hst
      go_wp2_with (fail)
      go_ret
      rw [HAC.out, if_neg (show ¬ (struckP s 1 = true) by rw [HST.out]; decide)]
      exact ⟨rfl, HIX.out, HW2.out⟩
    | true =>
      have HST := Aside0.mk hst
      clear hst
      have hck2 : ((w2.setCell ⟨x, j * 3, none⟩ (.string (strOfNums []))).setCell ⟨x, j * 3 + 2, none⟩ (.bool true)).cell? ⟨x, 27, none⟩ = some (.slice A1 (burnS s 1).keep.length c1) := by rw [← HKE.out]; exact HA2.out.c27
      go_wp2_with (fail)
      obtain ⟨_, _, kv2, hA3, hK3⟩ := HIX.out
      have hkv2 : kv2 = kv := by
        have h1 := HA2.out.c27
        have h2 := hA3.c27
        rw [h1] at h2
        exact (Option.some.inj h2).symm
      subst hkv2
      have hK4 := hK3
      rw [HKE.out] at hK4
      replace hK4 : Rw G .i64 _ (.slice A1 (burnS s 1).keep.length c1) (burnS s 1).keep := hK4
      have HF := RFall_calls G x _ _ (burnS s 1).keep _ HIX.out HOKC.out (Rw.alone hK4 HIX.out.gg) (by rw [HKB.out.2.1]; exact HI64.out)
      refine HF.mono ?_
      rintro e w3 ⟨rfl, hI3, hW3⟩
      have HI3 := Aside0.mk hI3
      have HW3 := Aside0.mk (HW2.out.trans hW3)
      clear hI3 hW3 HF hK4 hA3 hK3
      go_wp2_with (fail)
      go_ret
      rw [HKB.out.2.1] at HI3
      rw [HAC.out, if_pos HST.out]
      exact ⟨rfl, HI3.out, HW3.out⟩
end Go.Proofs.Ytehjbhnlbjbhfaa.Rd
-- RdE
namespace Go.Proofs.Ytehjbhnlbjbhfaa.Rd
open Go Go.RowKit Go.Proofs.YtehjbhnlbjbhfaaW.PrintWords Go.Proofs.YtehjbhnlbjbhfaaW.PrintLast Go.Proofs.YtehjbhnlbjbhfaaW.PrintMore Go.Proofs.Ytehjbhnlbjbhfaa.Dk
open Go.Proofs.Ytehjbhnlbjbhfaa.PDiskBegins
attribute [local go_sem] max2_int min2_int max_two min_two
set_option linter.unusedVariables false
set_option linter.unusedSimpArgs false
theorem len_fl {s : DS} {f : Fl} {b : Bool} {j : Nat} (h : (setF s j f).fs.length = 8) (hj : j < 8) : setF (setF s j f) j ⟨(fl (setF s j f) j).seen, (fl (setF s j f) j).lasts, b⟩ = setF s j ⟨f.seen, f.lasts, b⟩ := by
  have h0 : s.fs.length = 8 := by unfold setF at h; simpa using h
  rw [fl_set s h0 hj, set_set]
set_option maxHeartbeats 8000000 in
set_option maxRecDepth 100000 in
theorem RSync_calls (G : Nat → Prop) (x : Nat) (s : DS) (i : Int) (w : World) (h : IsX G w x s) (hok : Okk s) (hr : s.room ≠ 0) : Calls Try.prog 57 #[.pointer (some ⟨x, 0, none⟩), .int .i64 i] w fun e w' => e = .returned (.int .i64 (syncP s i).2) ∧ IsX G w' x (syncP s i).1 ∧ Wr x w w' := by
  have H := Aside0.mk h
  have HOK := Aside0.mk hok
  have HAB := Aside0.mk (may_calls G x s i w h)
  rcases may_cases s i with c | ⟨c, j, hj, rfl, _⟩
  · have HR := Aside0.mk (show syncP s i = (s, mayP s i) by unfold syncP; rw [able_may hr, if_pos c])
    have c1 : (mayP s i != (0 : Int)) = true := by simpa using c
    have c2 : (mayP s i == (0 : Int)) = false := by simpa using c
    rw [HR.out]
    clear h c HR hok
    generalize mayP s i = er at *
    go_enter Try.func57, Try.ntmps57
    go_wp2_with (fail)
    refine (HAB.out).mono ?_
    rintro e w1 ⟨rfl, ⟨nd, rfl⟩⟩
    go_wp2_with (fail)
    go_ret
    exact ⟨rfl, H.out.drN nd, (Wr.refl x w).drew1 nd⟩
  · have HR := Aside0.mk (show syncP s (j : Int) = actP s 1 (doneY j) by unfold syncP; rw [able_may hr, if_neg (by rw [c]; decide), Int.toNat_natCast])
    rw [c] at HAB
    rw [HR.out]
    have HB1 := Aside0.mk (show burnN s 1 = 1 by
      unfold burnN
      by_cases cs : s.set = true ∧ s.left ≤ ((1 : Nat) : Int)
      · rw [if_pos cs]; have := hok.1.fuse cs.1; omega
      · rw [if_neg cs])
    have HAC := Aside0.mk (show actP s 1 (doneY j) = if struckP s 1 = true then (fallP (setF (burnS s 1) j ⟨(fl (burnS s 1) j).seen, (fl (burnS s 1) j).seen, false⟩) s.keep, 50) else (setF (burnS s 1) j ⟨(fl (burnS s 1) j).seen, (fl (burnS s 1) j).seen, false⟩, 0) by
      unfold actP; rw [HB1.out]; unfold doneY; rw [if_pos rfl])
    obtain ⟨r, hrr⟩ : ∃ r, actP s 1 (doneY j) = r := ⟨_, rfl⟩
    rw [hrr] at HAC ⊢
    clear hrr
    have HBU := Aside0.mk (burn_calls G x s 1 (w.drewN 0) (H.out.drN 0) hok.1 (by decide))
    have HOKB := Aside0.mk (hok.1.burn 1)
    have HKB := Aside0.mk (burn_fs s 1)
    have HOKC := Aside0.mk (show Ok (setF (burnS s 1) j ⟨(fl (burnS s 1) j).seen, (fl (burnS s 1) j).seen, false⟩) by
      have := (hok.1.burn 1).doneY hj 1
      unfold doneY at this; rw [if_pos rfl] at this; exact this)
    have HJ := Aside0.mk hj
    have HI64 := Aside0.mk hok.2
    clear h c HR hok
    go_enter Try.func57, Try.ntmps57
    go_wp2_with (fail)
    refine (HAB.out).mono ?_
    rintro e w1 ⟨rfl, ⟨nd, rfl⟩⟩
    go_wp2_with (fail)
    refine (burn_calls G x s 1 _ (H.out.drN nd) HOK.out.1 (by decide)).mono ?_
    rintro e w2 ⟨rfl, hI, hW⟩
    have HI := Aside0.mk hI
    have HW := Aside0.mk (((Wr.refl x w).drew1 nd).trans hW)
    obtain ⟨_, _, kv, hA, hKV⟩ := hI
    have HA := Aside0.mk hA
    have HKV := Aside0.mk hKV
    have hst := hA.told hj
    rw [toXV_f (len_of hA) hj] at hst
    replace hst : w2.cell? ⟨x, j * 3, none⟩ = some (.string (strOfNums (fl (burnS s 1) j).seen)) := hst
    have hol := hA.lasts hj
    have hfl := hA.frozen (j * 3 + 1)
    have hcc := hA.cl hj
    have hfc := hA.frozen (j * 3 + 2)
    have hck : w2.cell? ⟨x, 27, none⟩ = some kv := hA.c27
    obtain ⟨A1, c1, hkv, _, _⟩ := hKV.slice
    rw [hkv] at hck
    have HKE := Aside0.mk hkv
    generalize (XV.f _ j).lasts = ot at hol
    generalize (XV.f _ j).cl = oc at hcc
    have HA2 := Aside0.mk (show AtX ((w2.setCell ⟨x, j * 3 + 1, none⟩ (.string (strOfNums (fl (burnS s 1) j).seen))).drew) x (toXV (setF (burnS s 1) j ⟨(fl (burnS s 1) j).seen, (fl (burnS s 1) j).seen, (fl (burnS s 1) j).cl⟩) kv) from AtX.same (hA.last hj (fl (burnS s 1) j).seen) rfl)
    have HW2 := Aside0.mk (HW.out.trans (show Wr x w2 ((w2.setCell ⟨x, j * 3 + 1, none⟩ (.string (strOfNums (fl (burnS s 1) j).seen))).drew) from ((Wr.refl x w2).set (j * 3 + 1) (.string (strOfNums (fl (burnS s 1) j).seen))).trans (Wr.of_below (below_drew1 (Below.refl _ _)))))
    have HV2 := Aside0.mk (HKV.out.wr (show Wr x w2 ((w2.setCell ⟨x, j * 3 + 1, none⟩ (.string (strOfNums (fl (burnS s 1) j).seen))).drew) from ((Wr.refl x w2).set (j * 3 + 1) (.string (strOfNums (fl (burnS s 1) j).seen))).trans (Wr.of_below (below_drew1 (Below.refl _ _)))) HI.out.gg)
    obtain ⟨st, hse⟩ : ∃ st, strOfNums (fl (burnS s 1) j).seen = st := ⟨_, rfl⟩
    have HSE := Aside0.mk hse
    rw [hse] at hst HA2 HW2 HV2
    clear hW hA hKV hkv hse
    go_wp2_with (fail)
    have hj8 : (j : Int) < 8 := by omega
    refine start_ (n := 14) (S := fun w' => w'.cell? ⟨x, j * 3, none⟩ = some (.string st) ∧ w'.cell? ⟨x, j * 3 + 1, none⟩ = some (.string ot) ∧ w'.frozen? ⟨x, j * 3 + 1, none⟩ = false) (ds := [13]) #[false, false, false, false, false, false, false, false, false, false, false, false, false, false] (by kernel_rfl) rfl rfl ⟨hst, hol, hfl⟩ (fun hHeld => ?_)
    refine pure_ (i := 0) (N := some 19) (v := ?_) (a' := ?_) #[true, false, false, false, false, false, false, false, false, false, false, false, false, false] rfl rfl (by kernel_rfl) (fun _ _ _ h => h) (Or.inl ⟨by rfl, ?_⟩) ?_ ?_
    rotate_left
    · intro w'
      go_simp
      with_reducible rfl
    rotate_left
    · simp only [Act.put, List.setIfInBounds_toArray, List.set_cons_zero, List.set_cons_succ, i64_w, i32_w]
      rfl
    refine pure_ (i := 1) (N := some 20) (v := ?_) (a' := ?_) #[true, true, false, false, false, false, false, false, false, false, false, false, false, false] rfl rfl (by kernel_rfl) (fun _ _ _ h => h) (Or.inl ⟨by rfl, ?_⟩) ?_ ?_
    rotate_left
    · intro w'
      go_simp
      with_reducible rfl
    rotate_left
    · simp only [Act.put, List.setIfInBounds_toArray, List.set_cons_zero, List.set_cons_succ, i64_w, i32_w]
      rfl
    refine pure_ (i := 2) (N := some 21) (v := ?_) (a' := ?_) #[true, true, true, false, false, false, false, false, false, false, false, false, false, false] rfl rfl (by kernel_rfl) (fun _ _ _ h => h) (Or.inl ⟨by rfl, ?_⟩) ?_ ?_
    rotate_left
    · intro w'
      go_simp
      with_reducible rfl
    rotate_left
    · simp only [Act.put, List.setIfInBounds_toArray, List.set_cons_zero, List.set_cons_succ, i64_w, i32_w]
      rfl
    refine pure_ (i := 3) (N := some 22) (v := ?_) (a' := ?_) #[true, true, true, true, false, false, false, false, false, false, false, false, false, false] rfl rfl (by kernel_rfl) (fun _ _ _ h => h) (Or.inl ⟨by rfl, ?_⟩) ?_ ?_
    rotate_left
    · intro w'
      go_simp
      with_reducible rfl
    rotate_left
    · simp only [Act.put, List.setIfInBounds_toArray, List.set_cons_zero, List.set_cons_succ, i64_w, i32_w]
      rfl
    refine pure_ (i := 4) (N := some 23) (v := ?_) (a' := ?_) #[true, true, true, true, true, false, false, false, false, false, false, false, false, false] rfl rfl (by kernel_rfl) (fun _ _ _ h => h) (Or.inl ⟨by rfl, ?_⟩) ?_ ?_
    rotate_left
    · intro w'
      go_simp
      with_reducible rfl
    rotate_left
    · simp only [Act.put, List.setIfInBounds_toArray, List.set_cons_zero, List.set_cons_succ, i64_w, i32_w]
      rfl
    refine pure_ (i := 5) (N := some 24) (v := ?_) (a' := ?_) #[true, true, true, true, true, true, false, false, false, false, false, false, false, false] rfl rfl (by kernel_rfl) (fun _ _ _ h => h) (Or.inl ⟨by rfl, ?_⟩) ?_ ?_
    rotate_left
    · intro w'
      go_simp
      with_reducible rfl
    rotate_left
    · simp only [Act.put, List.setIfInBounds_toArray, List.set_cons_zero, List.set_cons_succ, i64_w, i32_w]
      rfl
    refine pure_ (i := 6) (N := some 25) (v := ?_) (a' := ?_) #[true, true, true, true, true, true, true, false, false, false, false, false, false, false] rfl rfl (by kernel_rfl) (fun _ _ _ h => h) (Or.inl ⟨by rfl, ?_⟩) ?_ ?_
    rotate_left
    · intro w'
      go_simp
      with_reducible rfl
    rotate_left
    · simp only [Act.put, List.setIfInBounds_toArray, List.set_cons_zero, List.set_cons_succ, i64_w, i32_w]
      rfl
    refine pure_ (i := 7) (N := some 26) (v := ?_) (a' := ?_) #[true, true, true, true, true, true, true, true, false, false, false, false, false, false] rfl rfl (by kernel_rfl) (fun _ _ _ h => h) (Or.inl ⟨by rfl, ?_⟩) ?_ ?_
    rotate_left
    · intro w'
      go_simp
      with_reducible rfl
    rotate_left
    · simp only [Act.put, List.setIfInBounds_toArray, List.set_cons_zero, List.set_cons_succ, i64_w, i32_w]
      rfl
    refine pure_ (i := 9) (N := some 28) (v := ?_) (a' := ?_) #[true, true, true, true, true, true, true, true, false, true, false, false, false, false] rfl rfl (by kernel_rfl) (fun _ _ _ h => h) (Or.inl ⟨by rfl, ?_⟩) ?_ ?_
    rotate_left
    · intro w'
      go_simp
      with_reducible rfl
    rotate_left
    · simp only [Act.put, List.setIfInBounds_toArray, List.set_cons_zero, List.set_cons_succ, i64_w, i32_w]
      rfl
    refine pure_ (i := 10) (N := some 29) (v := ?_) (a' := ?_) #[true, true, true, true, true, true, true, true, false, true, true, false, false, false] rfl rfl (by kernel_rfl) (fun _ _ _ h => h) (Or.inl ⟨by rfl, ?_⟩) ?_ ?_
    rotate_left
    · intro w'
      go_simp
      with_reducible rfl
    rotate_left
    · simp only [Act.put, List.setIfInBounds_toArray, List.set_cons_zero, List.set_cons_succ, i64_w, i32_w]
      rfl
    refine take_ (i := 8) (N := some 27) (v := ?_) (a' := ?_) #[true, true, true, true, true, true, true, true, true, true, true, false, false, false] rfl rfl (by kernel_rfl) (fun _ _ _ h => h) (Or.inl ⟨by rfl, ?_⟩) hHeld ?_ ?_
    rotate_left
    · rintro w' ⟨s0, s1, s2⟩
      go_simp
      with_reducible rfl
    rotate_left
    · simp only [Act.put, List.setIfInBounds_toArray, List.set_cons_zero, List.set_cons_succ, i64_w, i32_w]
      rfl
    refine pure_ (i := 11) (N := some 30) (v := ?_) (a' := ?_) #[true, true, true, true, true, true, true, true, true, true, true, true, false, false] rfl rfl (by kernel_rfl) (fun _ _ _ h => h) (Or.inl ⟨by rfl, ?_⟩) ?_ ?_
    rotate_left
    · intro w'
      go_simp
      with_reducible rfl
    rotate_left
    · simp only [Act.put, List.setIfInBounds_toArray, List.set_cons_zero, List.set_cons_succ, i64_w, i32_w]
      rfl
    refine pure_ (i := 12) (N := some 31) (v := ?_) (a' := ?_) #[true, true, true, true, true, true, true, true, true, true, true, true, true, false] rfl rfl (by kernel_rfl) (fun _ _ _ h => h) (Or.inl ⟨by rfl, ?_⟩) ?_ ?_
    rotate_left
    · intro w'
      go_simp
      with_reducible rfl
    rotate_left
    · simp only [Act.put, List.setIfInBounds_toArray, List.set_cons_zero, List.set_cons_succ, i64_w, i32_w]
      rfl
    refine last_ (i := 13) (N := none) #[true, true, true, true, true, true, true, true, true, true, true, true, true, true] rfl rfl (by kernel_rfl) (by decide) (fun K hK => ?_)
    obtain ⟨hx0, hx1, hx2⟩ := hHeld
    refine skip_ (w1 := ?_) (by rfl) rfl ?_ ?_
    rotate_left
    · go_simp
      rfl
    refine hK.out _ _ ?_
    clear hK K
    refine done_ (by kernel_rfl) ?_
    generalize (w2.setCell ⟨x, j * 3 + 1, none⟩ (.string st)).drew = w5 at *
    clear hx0 hx1 hx2 hcc hfc hck hst hol hfl
    have hcc := HA2.out.cl hj
    have hfc := HA2.out.frozen (j * 3 + 2)
    generalize (XV.f _ j).cl = oc at hcc
    have HA5 := Aside0.mk (show AtX (w5.setCell ⟨x, j * 3 + 2, none⟩ (.bool false)) x (toXV (setF (burnS s 1) j ⟨(fl (burnS s 1) j).seen, (fl (burnS s 1) j).seen, false⟩) kv) by
      have h1 := HA2.out.clear hj false
      rw [len_fl (len_of HA2.out) hj] at h1
      exact h1)
    have HW5 := Aside0.mk (HW2.out.set (j * 3 + 2) (.bool false))
    have HIX := Aside0.mk (show IsX G (w5.setCell ⟨x, j * 3 + 2, none⟩ (.bool false)) x (setF (burnS s 1) j ⟨(fl (burnS s 1) j).seen, (fl (burnS s 1) j).seen, false⟩) from
      ⟨fun b hb => Nat.lt_of_lt_of_le (H.out.lt b hb) HW5.out.size, H.out.gg, kv, HA5.out, HV2.out.wr ((Wr.refl x w5).set (j * 3 + 2) (.bool false)) H.out.gg⟩)
    cases hst : struckP s 1 with
    | false =>
      have HST := Aside0.mk hst
      clear hst
      go_wp2_with (fail)
      go_ret
      rw [HAC.out, if_neg (show ¬ (struckP s 1 = true) by rw [HST.out]; decide)]
      exact ⟨rfl, HIX.out, HW5.out⟩
    | true =>
      have HST := Aside0.mk hst
      clear hst
      have hck2 : (w5.setCell ⟨x, j * 3 + 2, none⟩ (.bool false)).cell? ⟨x, 27, none⟩ = some (.slice A1 (burnS s 1).keep.length c1) := by rw [← HKE.out]; exact HA5.out.c27
      go_wp2_with (fail)
      obtain ⟨_, _, kv2, hA3, hK3⟩ := HIX.out
      have hkv2 : kv2 = kv := by
        have h1 := HA5.out.c27
        have h2 := hA3.c27
        rw [h1] at h2
        exact (Option.some.inj h2).symm
      subst hkv2
      have hK4 := hK3
      rw [HKE.out] at hK4
      replace hK4 : Rw G .i64 _ (.slice A1 (burnS s 1).keep.length c1) (burnS s 1).keep := hK4
      have HF := RFall_calls G x _ _ (burnS s 1).keep _ HIX.out HOKC.out (Rw.alone hK4 HIX.out.gg) (by rw [HKB.out.2.1]; exact HI64.out)
      refine HF.mono ?_
      rintro e w3 ⟨rfl, hI3, hW3⟩
      have HI3 := Aside0.mk hI3
      have HW3 := Aside0.mk (HW5.out.trans hW3)
      clear hI3 hW3 HF hK4 hA3 hK3
      go_wp2_with (fail)
      go_ret
      rw [HKB.out.2.1] at HI3
      rw [HAC.out, if_pos HST.out]
      exact ⟨rfl, HI3.out, HW3.out⟩
end Go.Proofs.Ytehjbhnlbjbhfaa.Rd
-- RdF
namespace Go.Proofs.Ytehjbhnlbjbhfaa.Rd
open Go Go.RowKit Go.Proofs.YtehjbhnlbjbhfaaW.PrintWords Go.Proofs.YtehjbhnlbjbhfaaW.PrintLast Go.Proofs.YtehjbhnlbjbhfaaW.PrintMore Go.Proofs.Ytehjbhnlbjbhfaa.Dk
open Go.Proofs.Ytehjbhnlbjbhfaa.PDiskBegins
attribute [local go_sem] max2_int min2_int max_two min_two
set_option linter.unusedVariables false
set_option linter.unusedSimpArgs false
set_option maxHeartbeats 8000000 in
set_option maxRecDepth 100000 in
theorem RArm_calls (G : Nat → Prop) (x : Nat) (s : DS) (n : Int) (kV : Value) (keep : List Int) (w : World) (h : IsX G w x s) (hok : Okk s) (hr : s.room ≠ 0) (hk : Rw (fun b => b = x) .i64 w kV keep) (hkl : keep.length < 1000000000) : Calls Try.prog 51 #[.pointer (some ⟨x, 0, none⟩), .int .i64 n, kV] w fun e w' => e = .returned (.int .i64 (armP s n keep).2) ∧ IsX G w' x (armP s n keep).1 ∧ Wr x w w' := by
  have H := Aside0.mk h
  have HE := Aside0.mk (show armP s n keep = if s.off = true then (s, 50) else if n < 1 then (s, 1) else ({ s with set := true, left := n, keep := keep }, 0) by
    unfold armP; rw [able_may hr, may0]
    by_cases c : s.off = true
    · rw [if_pos c, if_pos c, if_pos (by decide)]
    · rw [if_neg c, if_neg c, if_neg (by decide)])
  obtain ⟨_, _, kv, hA, hR⟩ := h
  have hc25 : w.cell? ⟨x, 25, none⟩ = some (.bool s.off) := hA.c25
  have hc26 := hA.c26
  have hf26 := hA.frozen 26
  have hc27 : w.cell? ⟨x, 27, none⟩ = some kv := hA.c27
  have hf27 := hA.frozen 27
  have HA := Aside0.mk hA
  obtain ⟨A, cc, rfl, hcc, hC⟩ := hk.slice
  obtain ⟨A1, c1, hkv, _, _⟩ := hR.slice
  rw [hkv] at hc27
  have HKV := Aside0.mk hkv
  clear hkv
  obtain ⟨r, hrr⟩ : ∃ r, armP s n keep = r := ⟨_, rfl⟩
  rw [hrr] at HE ⊢
  generalize (toXV s kv).fuse = ff at hc26
  have HX := Aside0.mk hA.lt
  have HK := Aside0.mk hk
  clear hA hR hok hk hrr hC
  by_cases c : s.off = true
  · have HE1 := Aside0.mk (HE.out.trans (if_pos c))
    rw [c] at hc25
    clear c HE
    go_enter Try.func51, Try.ntmps51
    go_wp2_with (fail)
    go_ret
    rw [HE1.out]
    exact ⟨rfl, H.out, Wr.refl _ _⟩
  · have HE1 := Aside0.mk (HE.out.trans (if_neg c))
    rw [show s.off = false by simpa using c] at hc25
    clear c HE
    by_cases c : n < 1
    · have HE2 := Aside0.mk (HE1.out.trans (if_pos c))
      have d1 : decide (n < 1) = true := decide_eq_true c
      clear c HE1
      go_enter Try.func51, Try.ntmps51
      go_wp2_with (fail)
      go_ret
      rw [HE2.out]
      exact ⟨rfl, H.out, Wr.refl _ _⟩
    · have HE2 := Aside0.mk (HE1.out.trans (if_neg c))
      have d1 : decide (n < 1) = false := decide_eq_false c
      clear c HE1
      have HA1 := Aside0.mk (show AtX (w.setCell ⟨x, 26, none⟩ (.int .i64 n)) x { toXV s kv with fuse := n } from HA.out.set26 n)
      have HR1 := Aside0.mk (show Wr x w (w.setCell ⟨x, 26, none⟩ (.int .i64 n)) from (Wr.refl x w).set 26 (.int .i64 n))
      have HC1 := Aside0.mk (Kd.V_reads' (HK.out.wr HR1.out rfl)).2.2
      have hc27' : (w.setCell ⟨x, 26, none⟩ (.int .i64 n)).cell? ⟨x, 27, none⟩ = some (.slice A1 s.keep.length c1) := by rw [← HKV.out]; exact HA1.out.c27
      have hf27' := HA1.out.frozen 27
      have HX1 := Aside0.mk HA1.out.lt
      go_enter Try.func51, Try.ntmps51
      go_wp2_with (first | ((with_reducible refine gate_dst (N := 18) rfl ?_); refine Kd.R_lit (Kd.int .i64) _ 3 ?hg (N := 18) ?hd (xs := ([] : List Int)) (inner := []) (ok := fun _ => True) (okp := fun _ => True) ?hr ?hp (fun _ hk => hk) trivial (Below.refl _ _) (Nat.le_refl _) (by simp) ?_; (case hd => rfl); (case hg => rfl); (case hr => first | (go_simp; done) | (go_simp; rfl)); (case hp => exact (Reps.none _ _)); intro va w4 ho5 hb hg_ hnew_; have HO5 := Aside0.mk ho5; have HB5 := Aside0.mk hb; clear hg_ hnew_ ho5 hb) | ((with_reducible refine gate_builtin (b := .append) (xs := #[.tmp 18, .tmp 19]) rfl ?_); at_builtin; refine Kd.R_append_rows (Kd.int .i64) (w0 := w.setCell ⟨x, 26, none⟩ (.int .i64 n)) (w.setCell ⟨x, 26, none⟩ (.int .i64 n)).heap.size rfl (.tmp 18) (.tmp 19) 33 3 (.int .i64 0) 8 rfl Try.underlying33 info3 rfl (by decide) (by omega) va [] keep _ _ _ (fun _ => True) (fun _ => False) rfl rfl ?aO ?aR (fun _ _ h => h) (fun _ h => h.elim) ?aF ?aB ?aS ?aL ?_; (case aR => exact Kd.C_below HC1.out HB5.out); (case aB => exact HB5.out); (case aF => exact (fun _ _ => trivial)); (case aO => exact HO5.out); (case aS => exact HB5.out.size); (case aL => simp; omega); intro vb w6 ho hb hg hat; rw [List.nil_append] at ho; obtain ⟨A2, c2, e2⟩ := Kd.R_slice ho; subst e2; have HO6 := Aside0.mk ho; have HB6 := Aside0.mk hb; clear ho hb hg hat; have hc27b := (HB6.out.cell (p := ⟨x, 27, none⟩) HX1.out).trans hc27'; have hf27b := (HB6.out.frozen (p := ⟨x, 27, none⟩) HX1.out).trans hf27'))
      go_ret
      rw [HE2.out]
      have hw := ((HR1.out.trans (Wr.of_below HB6.out)).set 27 (.slice A2 keep.length c2))
      have ha := (HA1.out.same (W' := w6) (HB6.out.block x HX1.out)).set27 (.slice A2 keep.length c2)
      have he : ({ ({ toXV s kv with fuse := n } : XV) with kv := .slice A2 keep.length c2 } : XV) = toXV { s with set := true, left := n, keep := keep } (.slice A2 keep.length c2) := by
        unfold toXV fuseP; rfl
      rw [he] at ha
      refine ⟨rfl, ⟨fun b hb => Nat.lt_of_lt_of_le (H.out.lt b hb) hw.size, H.out.gg, _, ha, ?_⟩, hw⟩
      have h1 := Rw.of_R HO6.out (G := G) (fun b hb => Nat.lt_of_lt_of_le (H.out.lt b hb) HR1.out.size)
      exact h1.wr ((Wr.refl x w6).set 27 (.slice A2 keep.length c2)) H.out.gg
end Go.Proofs.Ytehjbhnlbjbhfaa.Rd
-- RdG
namespace Go.Proofs.Ytehjbhnlbjbhfaa.Rd
open Go Go.RowKit Go.Proofs.YtehjbhnlbjbhfaaW.PrintWords Go.Proofs.YtehjbhnlbjbhfaaW.PrintLast Go.Proofs.YtehjbhnlbjbhfaaW.PrintMore Go.Proofs.Ytehjbhnlbjbhfaa.Dk
open Go.Proofs.Ytehjbhnlbjbhfaa.PDiskBegins
attribute [local go_sem] max2_int min2_int max_two min_two
set_option linter.unusedVariables false
set_option linter.unusedSimpArgs false
theorem burnN_le (s : DS) (n : Nat) : burnN s n ≤ n := by
  unfold burnN
  by_cases c : s.set = true ∧ s.left ≤ (n : Int)
  · rw [if_pos c]; omega
  · rw [if_neg c]; exact Nat.le_refl _
set_option maxHeartbeats 16000000 in
set_option maxRecDepth 100000 in
theorem RAppend_calls (G : Nat → Prop) (x : Nat) (s : DS) (i : Int) (bV : Value) (bs : List Int) (w : World) (h : IsX G w x s) (hok : Okk s) (hr : s.room ≠ 0) (hbv : Rw (fun b => b = x) .u8 w bV bs) (hbl : bs.length < 1000000000) : Calls Try.prog 33 #[.pointer (some ⟨x, 0, none⟩), .int .i64 i, bV] w fun e w' => e = .returned (.int .i64 (appendP s i bs).2) ∧ IsX G w' x (appendP s i bs).1 ∧ Wr x w w' := by
  have H := Aside0.mk h
  have HOK := Aside0.mk hok
  have HOK1 := Aside0.mk hok.1
  have HBV := Aside0.mk hbv
  have HAB := Aside0.mk (may_calls G x s i w h)
  obtain ⟨B, cb, rfl, hcb, _⟩ := hbv.slice
  rcases may_cases s i with c | ⟨c, j, hj, rfl, _⟩
  · have HR := Aside0.mk (show appendP s i bs = (s, mayP s i) by unfold appendP; rw [able_may hr, if_pos c])
    have c1 : (mayP s i != (0 : Int)) = true := by simpa using c
    have c2 : (mayP s i == (0 : Int)) = false := by simpa using c
    rw [HR.out]
    clear h c HR hok hbv
    generalize mayP s i = er at *
    go_enter Try.func33, Try.ntmps33
    go_wp2_with (fail)
    refine (HAB.out).mono ?_
    rintro e w1 ⟨rfl, ⟨nd, rfl⟩⟩
    go_wp2_with (fail)
    go_ret
    exact ⟨rfl, H.out.drN nd, (Wr.refl x w).drew1 nd⟩
  · have HR := Aside0.mk (show appendP s (j : Int) bs = if s.room < (usedP s : Int) + (bs.length : Int) then (s, 7) else actP s bs.length (doneA j bs) by unfold appendP; rw [able_may hr, if_neg (by rw [c]; decide), Int.toNat_natCast])
    rw [c] at HAB
    obtain ⟨r, hrr⟩ : ∃ r, appendP s (j : Int) bs = r := ⟨_, rfl⟩
    rw [hrr] at HR ⊢
    clear hrr c h hbv
    have hU := used_le hok.1
    have HFT := Aside0.mk (fun c => fits hok.1 hj bs c)
    have HBN := Aside0.mk (burnN_le s bs.length)
    have HOKB := Aside0.mk (hok.1.burn bs.length)
    have HKB := Aside0.mk (burn_fs s bs.length)
    have HFB := Aside0.mk (fl_burn s bs.length j)
    have HI64 := Aside0.mk hok.2
    have hw1 : wrap64 ((usedP s : Int) + (bs.length : Int)) = (usedP s : Int) + (bs.length : Int) := by unfold wrap64; omega
    have hw2 : IntKind.i64.wrap ((usedP s : Int) + (bs.length : Int)) = (usedP s : Int) + (bs.length : Int) := by clear hw1; exact IntWalk.i64_in _ (by omega)
    go_enter Try.func33, Try.ntmps33
    go_wp2_with (fail)
    refine (HAB.out).mono ?_
    rintro e w1 ⟨rfl, ⟨nd, rfl⟩⟩
    have H1 := Aside0.mk (H.out.drN nd)
    have HW1 := Aside0.mk ((Wr.refl x w).drew1 nd)
    have HBV1 := Aside0.mk (HBV.out.wr HW1.out rfl)
    clear H HBV HAB
    generalize w.drewN nd = w1 at *
    have H4 := Aside0.mk (show IsX G w1.drew x s from H1.out.below (below_drew1 (Below.refl _ _)))
    have HC24 := Aside0.mk (show w1.drew.cell? ⟨x, 24, none⟩ = some (.int .i64 s.room) by obtain ⟨_, _, kv, hA, _⟩ := H4.out; exact hA.c24)
    have HBD := Aside0.mk (below_drew1 (Below.refl w1.heap.size w1))
    go_wp2_with (fail)
    by_cases cf : s.room < (usedP s : Int) + (bs.length : Int)
    · have d1 : decide (s.room < (usedP s : Int) + (bs.length : Int)) = true := decide_eq_true cf
      have HE := Aside0.mk (HR.out.trans (if_pos cf))
      clear HR cf hok
      refine start_ (n := 10) (S := fun w' => IsX G w' x s ∧ w'.cell? ⟨x, 24, none⟩ = some (.int .i64 s.room)) (ds := []) #[false, false, false, false, false, false, false, false, false, false] (by kernel_rfl) rfl rfl ⟨H4.out, HC24.out⟩ (fun hHeld => ?_)
      refine pure_ (i := 0) (N := some 16) (v := ?_) (a' := ?_) #[true, false, false, false, false, false, false, false, false, false] rfl rfl (by kernel_rfl) (fun _ _ _ h => h) (Or.inl ⟨by rfl, ?_⟩) ?_ ?_
      rotate_left
      · intro w'
        go_simp
        with_reducible rfl
      rotate_left
      · simp only [Act.put, List.setIfInBounds_toArray, List.set_cons_zero, List.set_cons_succ, i64_w, i32_w]
        rfl
      refine pure_ (i := 2) (N := some 18) (v := ?_) (a' := ?_) #[true, false, true, false, false, false, false, false, false, false] rfl rfl (by kernel_rfl) (fun _ _ _ h => h) (Or.inl ⟨by rfl, ?_⟩) ?_ ?_
      rotate_left
      · intro w'
        go_simp
        with_reducible rfl
      rotate_left
      · simp only [Act.put, List.setIfInBounds_toArray, List.set_cons_zero, List.set_cons_succ, i64_w, i32_w]
        rfl
      refine pure_ (i := 3) (N := some 19) (v := ?_) (a' := ?_) #[true, false, true, true, false, false, false, false, false, false] rfl rfl (by kernel_rfl) (fun _ _ _ h => h) (Or.inl ⟨by rfl, ?_⟩) ?_ ?_
      rotate_left
      · intro w'
        go_simp
        with_reducible rfl
      rotate_left
      · simp only [Act.put, List.setIfInBounds_toArray, List.set_cons_zero, List.set_cons_succ, i64_w, i32_w]
        rfl
      refine pure_ (i := 5) (N := some 21) (v := ?_) (a' := ?_) #[true, false, true, true, false, true, false, false, false, false] rfl rfl (by kernel_rfl) (fun _ _ _ h => h) (Or.inl ⟨by rfl, ?_⟩) ?_ ?_
      rotate_left
      · intro w'
        go_simp
        with_reducible rfl
      rotate_left
      · simp only [Act.put, List.setIfInBounds_toArray, List.set_cons_zero, List.set_cons_succ, i64_w, i32_w]
        rfl
      refine pure_ (i := 6) (N := some 22) (v := ?_) (a' := ?_) #[true, false, true, true, false, true, true, false, false, false] rfl rfl (by kernel_rfl) (fun _ _ _ h => h) (Or.inl ⟨by rfl, ?_⟩) ?_ ?_
      rotate_left
      · intro w'
        go_simp
        with_reducible rfl
      rotate_left
      · simp only [Act.put, List.setIfInBounds_toArray, List.set_cons_zero, List.set_cons_succ, i64_w, i32_w]
        rfl
      refine pure_ (i := 7) (N := some 23) (v := ?_) (a' := ?_) #[true, false, true, true, false, true, true, true, false, false] rfl rfl (by kernel_rfl) (fun _ _ _ h => h) (Or.inl ⟨by rfl, ?_⟩) ?_ ?_
      rotate_left
      · intro w'
        go_simp
        with_reducible rfl
      rotate_left
      · simp only [Act.put, List.setIfInBounds_toArray, List.set_cons_zero, List.set_cons_succ, i64_w, i32_w]
        rfl
      refine take_ (i := 8) (N := some 24) (v := ?_) (a' := ?_) #[true, false, true, true, false, true, true, true, true, false] rfl rfl (by kernel_rfl) (fun _ _ _ h => h) (Or.inl ⟨by rfl, ?_⟩) hHeld ?_ ?_
      rotate_left
      · rintro w' ⟨s0, s1⟩
        go_simp
        with_reducible rfl
      rotate_left
      · simp only [Act.put, List.setIfInBounds_toArray, List.set_cons_zero, List.set_cons_succ, i64_w, i32_w]
        rfl
      refine one_ (i := 1) (N := some 17) #[true, true, true, true, false, true, true, true, true, false] rfl rfl (by kernel_rfl) (by decide) (fun K hK => ?_)
      refine goes_ Try.func19 (by kernel_rfl) rfl #[.pointer (some ⟨x, 0, none⟩)] (by rfl) rfl rfl (by first | rfl | (simp; done) | (simp only [List.map_toArray, List.map_cons, List.map_nil]; rfl)) ?_
      with_reducible refine (RUsed_calls G x s _ hHeld.1 HOK1.out).mono ?_
      rintro e w3 ⟨rfl, hb⟩
      refine ⟨_, rfl, ?_⟩
      have n0_ := Aside0.mk (below_step HBD.out hb)
      clear HBD
      have HBD := n0_
      clear n0_
      refine hK.out _ _ ⟨hHeld.1.below hb, (hb.cell (p := ⟨x, 24, none⟩) (by exact (hHeld.1.lt x hHeld.1.gg))).trans hHeld.2⟩ (fun hHeld => ?_)
      clear hK K
      refine norm_ (a' := ?_) ?_ ?_
      rotate_left
      · show Act.put _ (some 17) _ = _
        simp only [Act.put, List.setIfInBounds_toArray, List.set_cons_zero, List.set_cons_succ, i64_w, i32_w]
        rfl
      refine pure_ (i := 4) (N := some 20) (v := ?_) (a' := ?_) #[true, true, true, true, true, true, true, true, true, false] rfl rfl (by kernel_rfl) (fun _ _ _ h => h) (Or.inl ⟨by rfl, ?_⟩) ?_ ?_
      rotate_left
      · intro w'
        go_simp
        with_reducible rfl
      rotate_left
      · simp only [Act.put, List.setIfInBounds_toArray, List.set_cons_zero, List.set_cons_succ, i64_w, i32_w]
        rfl
      refine pure_ (i := 9) (N := some 25) (v := ?_) (a' := ?_) #[true, true, true, true, true, true, true, true, true, true] rfl rfl (by kernel_rfl) (fun _ _ _ h => h) (Or.inl ⟨by rfl, ?_⟩) ?_ ?_
      rotate_left
      · intro w'
        go_simp
        with_reducible rfl
      rotate_left
      · simp only [Act.put, List.setIfInBounds_toArray, List.set_cons_zero, List.set_cons_succ, i64_w, i32_w]
        rfl
      refine done_ (by kernel_rfl) ?_
      go_wp2_with (fail)
      go_ret
      rw [HE.out]
      exact ⟨rfl, H1.out.below HBD.out, HW1.out.trans (Wr.of_below HBD.out)⟩
    · have d1 : decide (s.room < (usedP s : Int) + (bs.length : Int)) = false := decide_eq_false cf
      have HE := Aside0.mk (HR.out.trans (if_neg (by omega)))
      have HFF := Aside0.mk (HFT.out (by omega))
      clear HR cf hok
      refine start_ (n := 10) (S := fun w' => IsX G w' x s ∧ w'.cell? ⟨x, 24, none⟩ = some (.int .i64 s.room)) (ds := []) #[false, false, false, false, false, false, false, false, false, false] (by kernel_rfl) rfl rfl ⟨H4.out, HC24.out⟩ (fun hHeld => ?_)
      refine pure_ (i := 0) (N := some 16) (v := ?_) (a' := ?_) #[true, false, false, false, false, false, false, false, false, false] rfl rfl (by kernel_rfl) (fun _ _ _ h => h) (Or.inl ⟨by rfl, ?_⟩) ?_ ?_
      rotate_left
      · intro w'
        go_simp
        with_reducible rfl
      rotate_left
      · simp only [Act.put, List.setIfInBounds_toArray, List.set_cons_zero, List.set_cons_succ, i64_w, i32_w]
        rfl
      refine pure_ (i := 2) (N := some 18) (v := ?_) (a' := ?_) #[true, false, true, false, false, false, false, false, false, false] rfl rfl (by kernel_rfl) (fun _ _ _ h => h) (Or.inl ⟨by rfl, ?_⟩) ?_ ?_
      rotate_left
      · intro w'
        go_simp
        with_reducible rfl
      rotate_left
      · simp only [Act.put, List.setIfInBounds_toArray, List.set_cons_zero, List.set_cons_succ, i64_w, i32_w]
        rfl
      refine pure_ (i := 3) (N := some 19) (v := ?_) (a' := ?_) #[true, false, true, true, false, false, false, false, false, false] rfl rfl (by kernel_rfl) (fun _ _ _ h => h) (Or.inl ⟨by rfl, ?_⟩) ?_ ?_
      rotate_left
      · intro w'
        go_simp
        with_reducible rfl
      rotate_left
      · simp only [Act.put, List.setIfInBounds_toArray, List.set_cons_zero, List.set_cons_succ, i64_w, i32_w]
        rfl
      refine pure_ (i := 5) (N := some 21) (v := ?_) (a' := ?_) #[true, false, true, true, false, true, false, false, false, false] rfl rfl (by kernel_rfl) (fun _ _ _ h => h) (Or.inl ⟨by rfl, ?_⟩) ?_ ?_
      rotate_left
      · intro w'
        go_simp
        with_reducible rfl
      rotate_left
      · simp only [Act.put, List.setIfInBounds_toArray, List.set_cons_zero, List.set_cons_succ, i64_w, i32_w]
        rfl
      refine pure_ (i := 6) (N := some 22) (v := ?_) (a' := ?_) #[true, false, true, true, false, true, true, false, false, false] rfl rfl (by kernel_rfl) (fun _ _ _ h => h) (Or.inl ⟨by rfl, ?_⟩) ?_ ?_
      rotate_left
      · intro w'
        go_simp
        with_reducible rfl
      rotate_left
      · simp only [Act.put, List.setIfInBounds_toArray, List.set_cons_zero, List.set_cons_succ, i64_w, i32_w]
        rfl
      refine pure_ (i := 7) (N := some 23) (v := ?_) (a' := ?_) #[true, false, true, true, false, true, true, true, false, false] rfl rfl (by kernel_rfl) (fun _ _ _ h => h) (Or.inl ⟨by rfl, ?_⟩) ?_ ?_
      rotate_left
      · intro w'
        go_simp
        with_reducible rfl
      rotate_left
      · simp only [Act.put, List.setIfInBounds_toArray, List.set_cons_zero, List.set_cons_succ, i64_w, i32_w]
        rfl
      refine take_ (i := 8) (N := some 24) (v := ?_) (a' := ?_) #[true, false, true, true, false, true, true, true, true, false] rfl rfl (by kernel_rfl) (fun _ _ _ h => h) (Or.inl ⟨by rfl, ?_⟩) hHeld ?_ ?_
      rotate_left
      · rintro w' ⟨s0, s1⟩
        go_simp
        with_reducible rfl
      rotate_left
      · simp only [Act.put, List.setIfInBounds_toArray, List.set_cons_zero, List.set_cons_succ, i64_w, i32_w]
        rfl
      refine one_ (i := 1) (N := some 17) #[true, true, true, true, false, true, true, true, true, false] rfl rfl (by kernel_rfl) (by decide) (fun K hK => ?_)
      refine goes_ Try.func19 (by kernel_rfl) rfl #[.pointer (some ⟨x, 0, none⟩)] (by rfl) rfl rfl (by first | rfl | (simp; done) | (simp only [List.map_toArray, List.map_cons, List.map_nil]; rfl)) ?_
      with_reducible refine (RUsed_calls G x s _ hHeld.1 HOK1.out).mono ?_
      rintro e w3 ⟨rfl, hb⟩
      refine ⟨_, rfl, ?_⟩
      have n0_ := Aside0.mk (below_step HBD.out hb)
      clear HBD
      have HBD := n0_
      clear n0_
      refine hK.out _ _ ⟨hHeld.1.below hb, (hb.cell (p := ⟨x, 24, none⟩) (by exact (hHeld.1.lt x hHeld.1.gg))).trans hHeld.2⟩ (fun hHeld => ?_)
      clear hK K
      refine norm_ (a' := ?_) ?_ ?_
      rotate_left
      · show Act.put _ (some 17) _ = _
        simp only [Act.put, List.setIfInBounds_toArray, List.set_cons_zero, List.set_cons_succ, i64_w, i32_w]
        rfl
      refine pure_ (i := 4) (N := some 20) (v := ?_) (a' := ?_) #[true, true, true, true, true, true, true, true, true, false] rfl rfl (by kernel_rfl) (fun _ _ _ h => h) (Or.inl ⟨by rfl, ?_⟩) ?_ ?_
      rotate_left
      · intro w'
        go_simp
        with_reducible rfl
      rotate_left
      · simp only [Act.put, List.setIfInBounds_toArray, List.set_cons_zero, List.set_cons_succ, i64_w, i32_w]
        rfl
      refine pure_ (i := 9) (N := some 25) (v := ?_) (a' := ?_) #[true, true, true, true, true, true, true, true, true, true] rfl rfl (by kernel_rfl) (fun _ _ _ h => h) (Or.inl ⟨by rfl, ?_⟩) ?_ ?_
      rotate_left
      · intro w'
        go_simp
        with_reducible rfl
      rotate_left
      · simp only [Act.put, List.setIfInBounds_toArray, List.set_cons_zero, List.set_cons_succ, i64_w, i32_w]
        rfl
      refine done_ (by kernel_rfl) ?_
      have HI3 := Aside0.mk (H1.out.below HBD.out)
      have HW3 := Aside0.mk (HW1.out.trans (Wr.of_below HBD.out))
      have HBV3 := Aside0.mk (HBV1.out.below HBD.out)
      clear HBD H1 HW1 HBV1 H4 HC24 hHeld d1 hw1 hw2 hU
      go_wp2_with (fail)
      refine (burn_calls G x s bs.length w3 HI3.out HOK1.out hbl).mono ?_
      rintro e w5 ⟨rfl, hI, hW⟩
      have HI5 := Aside0.mk hI
      have HW5 := Aside0.mk (HW3.out.trans hW)
      have HBV5 := Aside0.mk (HBV3.out.wr hW rfl)
      clear hI hW HI3 HW3 HBV3
      have HAC := Aside0.mk (show actP s bs.length (doneA j bs) = if struckP s bs.length = true then (fallP (setF (burnS s bs.length) j ⟨(fl s j).seen ++ bs.take (burnN s bs.length), (fl s j).lasts, (fl s j).cl⟩) s.keep, 50) else (setF (burnS s bs.length) j ⟨(fl s j).seen ++ bs.take (burnN s bs.length), (fl s j).lasts, (fl s j).cl⟩, 0) by
        unfold actP doneA; rw [HFB.out])
      rw [← HE.out] at HAC
      have HOKC := Aside0.mk (show Ok (setF (burnS s bs.length) j ⟨(fl s j).seen ++ bs.take (burnN s bs.length), (fl s j).lasts, (fl s j).cl⟩) by
        have h1 := HOKB.out.doneA hj bs (burnN s bs.length) (by rw [HFB.out]; exact HFF.out)
        unfold doneA at h1; rw [HFB.out] at h1; exact h1)
      obtain ⟨_, _, kv, hA, hKV⟩ := HI5.out
      have hst := hA.told hj
      rw [toXV_f (len_of hA) hj] at hst
      replace hst : w5.cell? ⟨x, j * 3, none⟩ = some (.string (strOfNums (fl (burnS s bs.length) j).seen)) := hst
      rw [HFB.out] at hst
      have hfst := hA.frozen (j * 3)
      obtain ⟨A1, c1, hkv, _, _⟩ := hKV.slice
      have HKE := Aside0.mk hkv
      have HCB := Aside0.mk (show (Kd.int .u8).C w5.drew B bs.length bs from Kd.C_drew (Kd.V_reads' HBV5.out).2.2)
      have HNB := HBN
      have hz := strOfNums_size (fl s j).seen
      have HZK := Aside0.mk (show (strOfNums (bs.take (burnN s bs.length))).size = burnN s bs.length by rw [strOfNums_size, List.length_take]; exact Nat.min_eq_left HBN.out)
      have HAN := Aside0.mk (app_nums (fl s j).seen (bs.take (burnN s bs.length)))
      have hsl : (fl s j).seen.length + bs.length ≤ 4194304 := HFF.out
      have HA6 := Aside0.mk (show AtX ((w5.setCell ⟨x, j * 3, none⟩ (.string (strOfNums (fl s j).seen ++ strOfNums (bs.take (burnN s bs.length))))).drew) x (toXV (setF (burnS s bs.length) j ⟨(fl s j).seen ++ bs.take (burnN s bs.length), (fl s j).lasts, (fl s j).cl⟩) kv) by
        have h1 := hA.tell hj ((fl s j).seen ++ bs.take (burnN s bs.length))
        rw [HFB.out] at h1
        rw [HAN.out]
        exact AtX.same h1 rfl)
      have HWX := Aside0.mk (fun (b : ByteArray) => show Wr x w5 ((w5.setCell ⟨x, j * 3, none⟩ (.string b)).drew) from ((Wr.refl x w5).set (j * 3) (.string b)).trans (Wr.of_below (below_drew1 (Below.refl _ _))))
      have HV6 := Aside0.mk (hKV.wr (HWX.out (strOfNums (fl s j).seen ++ strOfNums (bs.take (burnN s bs.length)))) HI5.out.gg)
      have HW6 := Aside0.mk (HW5.out.trans (HWX.out (strOfNums (fl s j).seen ++ strOfNums (bs.take (burnN s bs.length)))))
      have HIX := Aside0.mk (show IsX G ((w5.setCell ⟨x, j * 3, none⟩ (.string (strOfNums (fl s j).seen ++ strOfNums (bs.take (burnN s bs.length))))).drew) x (setF (burnS s bs.length) j ⟨(fl s j).seen ++ bs.take (burnN s bs.length), (fl s j).lasts, (fl s j).cl⟩) from
        ⟨fun b hb => Nat.lt_of_lt_of_le (HI5.out.lt b hb) (HWX.out _).size, HI5.out.gg, kv, HA6.out, HV6.out⟩)
      obtain ⟨n, hn⟩ : ∃ n, burnN s bs.length = n := ⟨_, rfl⟩
      obtain ⟨tk, htk⟩ : ∃ tk, strOfNums (bs.take n) = tk := ⟨_, rfl⟩
      obtain ⟨st, hse⟩ : ∃ st, strOfNums (fl s j).seen = st := ⟨_, rfl⟩
      rw [hn] at HNB HZK HA6 HV6 HW6 HIX HOKC HAC
      rw [htk] at HZK HA6 HV6 HW6 HIX
      rw [hse] at hst hz HA6 HV6 HW6 HIX
      have HTK := Aside0.mk htk
      have hzt := HZK.out
      have HTL := Aside0.mk (show (bs.take n).length = n by rw [List.length_take]; exact Nat.min_eq_left HNB.out)
      have hnb := HNB.out
      obtain ⟨sl, hsl2⟩ : ∃ sl, (fl s j).seen.length = sl := ⟨_, rfl⟩
      rw [hsl2] at hz hsl
      rw [hn]
      clear hA hKV hkv htk hse HAN hsl2 HFB HFF HBN HE hn
      have hle3 : ¬ 9223372036854775807 < sl + n := by omega
      have hj8 : (j : Int) < 8 := by omega
      have hcb2 : n ≤ cb := by omega
      have hnb2 : (n : Int) ≤ (bs.length : Int) := by omega
      have hnb3 : (n : Int) ≤ (cb : Int) := by omega
      go_wp2_with (fail)
      refine start_ (n := 19) (S := fun w' => w'.cell? ⟨x, j * 3, none⟩ = some (.string st) ∧ w'.frozen? ⟨x, j * 3, none⟩ = false ∧ (Kd.int .u8).C w' B bs.length bs) (ds := [18]) #[false, false, false, false, false, false, false, false, false, false, false, false, false, false, false, false, false, false, false] (by kernel_rfl) rfl rfl ⟨hst, hfst, HCB.out⟩ (fun hHeld => ?_)
      refine pure_ (i := 0) (N := some 33) (v := ?_) (a' := ?_) #[true, false, false, false, false, false, false, false, false, false, false, false, false, false, false, false, false, false, false] rfl rfl (by kernel_rfl) (fun _ _ _ h => h) (Or.inl ⟨by rfl, ?_⟩) ?_ ?_
      rotate_left
      · intro w'
        go_simp
        with_reducible rfl
      rotate_left
      · simp only [Act.put, List.setIfInBounds_toArray, List.set_cons_zero, List.set_cons_succ, i64_w, i32_w]
        rfl
      refine pure_ (i := 1) (N := some 34) (v := ?_) (a' := ?_) #[true, true, false, false, false, false, false, false, false, false, false, false, false, false, false, false, false, false, false] rfl rfl (by kernel_rfl) (fun _ _ _ h => h) (Or.inl ⟨by rfl, ?_⟩) ?_ ?_
      rotate_left
      · intro w'
        go_simp
        with_reducible rfl
      rotate_left
      · simp only [Act.put, List.setIfInBounds_toArray, List.set_cons_zero, List.set_cons_succ, i64_w, i32_w]
        rfl
      refine pure_ (i := 2) (N := some 35) (v := ?_) (a' := ?_) #[true, true, true, false, false, false, false, false, false, false, false, false, false, false, false, false, false, false, false] rfl rfl (by kernel_rfl) (fun _ _ _ h => h) (Or.inl ⟨by rfl, ?_⟩) ?_ ?_
      rotate_left
      · intro w'
        go_simp
        with_reducible rfl
      rotate_left
      · simp only [Act.put, List.setIfInBounds_toArray, List.set_cons_zero, List.set_cons_succ, i64_w, i32_w]
        rfl
      refine pure_ (i := 3) (N := some 36) (v := ?_) (a' := ?_) #[true, true, true, true, false, false, false, false, false, false, false, false, false, false, false, false, false, false, false] rfl rfl (by kernel_rfl) (fun _ _ _ h => h) (Or.inl ⟨by rfl, ?_⟩) ?_ ?_
      rotate_left
      · intro w'
        go_simp
        with_reducible rfl
      rotate_left
      · simp only [Act.put, List.setIfInBounds_toArray, List.set_cons_zero, List.set_cons_succ, i64_w, i32_w]
        rfl
      refine pure_ (i := 4) (N := some 37) (v := ?_) (a' := ?_) #[true, true, true, true, true, false, false, false, false, false, false, false, false, false, false, false, false, false, false] rfl rfl (by kernel_rfl) (fun _ _ _ h => h) (Or.inl ⟨by rfl, ?_⟩) ?_ ?_
      rotate_left
      · intro w'
        go_simp
        with_reducible rfl
      rotate_left
      · simp only [Act.put, List.setIfInBounds_toArray, List.set_cons_zero, List.set_cons_succ, i64_w, i32_w]
        rfl
      refine pure_ (i := 5) (N := some 38) (v := ?_) (a' := ?_) #[true, true, true, true, true, true, false, false, false, false, false, false, false, false, false, false, false, false, false] rfl rfl (by kernel_rfl) (fun _ _ _ h => h) (Or.inl ⟨by rfl, ?_⟩) ?_ ?_
      rotate_left
      · intro w'
        go_simp
        with_reducible rfl
      rotate_left
      · simp only [Act.put, List.setIfInBounds_toArray, List.set_cons_zero, List.set_cons_succ, i64_w, i32_w]
        rfl
      refine pure_ (i := 6) (N := some 39) (v := ?_) (a' := ?_) #[true, true, true, true, true, true, true, false, false, false, false, false, false, false, false, false, false, false, false] rfl rfl (by kernel_rfl) (fun _ _ _ h => h) (Or.inl ⟨by rfl, ?_⟩) ?_ ?_
      rotate_left
      · intro w'
        go_simp
        with_reducible rfl
      rotate_left
      · simp only [Act.put, List.setIfInBounds_toArray, List.set_cons_zero, List.set_cons_succ, i64_w, i32_w]
        rfl
      refine pure_ (i := 7) (N := some 40) (v := ?_) (a' := ?_) #[true, true, true, true, true, true, true, true, false, false, false, false, false, false, false, false, false, false, false] rfl rfl (by kernel_rfl) (fun _ _ _ h => h) (Or.inl ⟨by rfl, ?_⟩) ?_ ?_
      rotate_left
      · intro w'
        go_simp
        with_reducible rfl
      rotate_left
      · simp only [Act.put, List.setIfInBounds_toArray, List.set_cons_zero, List.set_cons_succ, i64_w, i32_w]
        rfl
      refine pure_ (i := 9) (N := some 42) (v := ?_) (a' := ?_) #[true, true, true, true, true, true, true, true, false, true, false, false, false, false, false, false, false, false, false] rfl rfl (by kernel_rfl) (fun _ _ _ h => h) (Or.inl ⟨by rfl, ?_⟩) ?_ ?_
      rotate_left
      · intro w'
        go_simp
        with_reducible rfl
      rotate_left
      · simp only [Act.put, List.setIfInBounds_toArray, List.set_cons_zero, List.set_cons_succ, i64_w, i32_w]
        rfl
      refine pure_ (i := 10) (N := some 43) (v := ?_) (a' := ?_) #[true, true, true, true, true, true, true, true, false, true, true, false, false, false, false, false, false, false, false] rfl rfl (by kernel_rfl) (fun _ _ _ h => h) (Or.inl ⟨by rfl, ?_⟩) ?_ ?_
      rotate_left
      · intro w'
        go_simp
        with_reducible rfl
      rotate_left
      · simp only [Act.put, List.setIfInBounds_toArray, List.set_cons_zero, List.set_cons_succ, i64_w, i32_w]
        rfl
      refine pure_ (i := 11) (N := some 44) (v := ?_) (a' := ?_) #[true, true, true, true, true, true, true, true, false, true, true, true, false, false, false, false, false, false, false] rfl rfl (by kernel_rfl) (fun _ _ _ h => h) (Or.inl ⟨by rfl, ?_⟩) ?_ ?_
      rotate_left
      · intro w'
        go_simp
        with_reducible rfl
      rotate_left
      · simp only [Act.put, List.setIfInBounds_toArray, List.set_cons_zero, List.set_cons_succ, i64_w, i32_w]
        rfl
      refine take_ (i := 12) (N := some 45) (v := ?_) (a' := ?_) #[true, true, true, true, true, true, true, true, false, true, true, true, true, false, false, false, false, false, false] rfl rfl (by kernel_rfl) (fun _ _ _ h => h) (Or.inl ⟨by rfl, ?_⟩) hHeld ?_ ?_
      rotate_left
      · rintro w' ⟨s0, s1, s2⟩
        have hk_ := Kd.C_string (P := Try.prog) (A := B) (c := cb) Try.underlying32 Try.underlying5 Try.underlying9 (Kd.C_take s2 HNB.out)
        rw [HTL.out, HTK.out] at hk_
        go_simp
        with_reducible rfl
      rotate_left
      · simp only [Act.put, List.setIfInBounds_toArray, List.set_cons_zero, List.set_cons_succ, i64_w, i32_w]
        rfl
      refine pure_ (i := 14) (N := some 47) (v := ?_) (a' := ?_) #[true, true, true, true, true, true, true, true, false, true, true, true, true, false, true, false, false, false, false] rfl rfl (by kernel_rfl) (fun _ _ _ h => h) (Or.inl ⟨by rfl, ?_⟩) ?_ ?_
      rotate_left
      · intro w'
        go_simp
        with_reducible rfl
      rotate_left
      · simp only [Act.put, List.setIfInBounds_toArray, List.set_cons_zero, List.set_cons_succ, i64_w, i32_w]
        rfl
      refine pure_ (i := 15) (N := some 48) (v := ?_) (a' := ?_) #[true, true, true, true, true, true, true, true, false, true, true, true, true, false, true, true, false, false, false] rfl rfl (by kernel_rfl) (fun _ _ _ h => h) (Or.inl ⟨by rfl, ?_⟩) ?_ ?_
      rotate_left
      · intro w'
        go_simp
        with_reducible rfl
      rotate_left
      · simp only [Act.put, List.setIfInBounds_toArray, List.set_cons_zero, List.set_cons_succ, i64_w, i32_w]
        rfl
      refine take_ (i := 8) (N := some 41) (v := ?_) (a' := ?_) #[true, true, true, true, true, true, true, true, true, true, true, true, true, false, true, true, false, false, false] rfl rfl (by kernel_rfl) (fun _ _ _ h => h) (Or.inl ⟨by rfl, ?_⟩) hHeld ?_ ?_
      rotate_left
      · rintro w' ⟨s0, s1, s2⟩
        go_simp
        with_reducible rfl
      rotate_left
      · simp only [Act.put, List.setIfInBounds_toArray, List.set_cons_zero, List.set_cons_succ, i64_w, i32_w]
        rfl
      refine pure_ (i := 13) (N := some 46) (v := ?_) (a' := ?_) #[true, true, true, true, true, true, true, true, true, true, true, true, true, true, true, true, false, false, false] rfl rfl (by kernel_rfl) (fun _ _ _ h => h) (Or.inl ⟨by rfl, ?_⟩) ?_ ?_
      rotate_left
      · intro w'
        go_simp
        with_reducible rfl
      rotate_left
      · simp only [Act.put, List.setIfInBounds_toArray, List.set_cons_zero, List.set_cons_succ, i64_w, i32_w]
        rfl
      refine pure_ (i := 16) (N := some 49) (v := ?_) (a' := ?_) #[true, true, true, true, true, true, true, true, true, true, true, true, true, true, true, true, true, false, false] rfl rfl (by kernel_rfl) (fun _ _ _ h => h) (Or.inl ⟨by rfl, ?_⟩) ?_ ?_
      rotate_left
      · intro w'
        go_simp
        with_reducible rfl
      rotate_left
      · simp only [Act.put, List.setIfInBounds_toArray, List.set_cons_zero, List.set_cons_succ, i64_w, i32_w]
        rfl
      refine pure_ (i := 17) (N := some 50) (v := ?_) (a' := ?_) #[true, true, true, true, true, true, true, true, true, true, true, true, true, true, true, true, true, true, false] rfl rfl (by kernel_rfl) (fun _ _ _ h => h) (Or.inl ⟨by rfl, ?_⟩) ?_ ?_
      rotate_left
      · intro w'
        go_simp
        with_reducible rfl
      rotate_left
      · simp only [Act.put, List.setIfInBounds_toArray, List.set_cons_zero, List.set_cons_succ, i64_w, i32_w]
        rfl
      refine last_ (i := 18) (N := none) #[true, true, true, true, true, true, true, true, true, true, true, true, true, true, true, true, true, true, true] rfl rfl (by kernel_rfl) (by decide) (fun K hK => ?_)
      obtain ⟨hx0, hx1, hx2⟩ := hHeld
      refine skip_ (w1 := ?_) (by rfl) rfl ?_ ?_
      rotate_left
      · go_simp
        rfl
      refine hK.out _ _ ?_
      clear hK K
      refine done_ (by kernel_rfl) ?_
      generalize (w5.setCell ⟨x, j * 3, none⟩ (.string (st ++ tk))).drew = w6 at *
      clear hst hfst HCB hx0 hx1 hx2 hz hzt hnb hle3 hcb2 hnb2 hnb3 hj8 hsl
      cases hst : struckP s bs.length with
      | false =>
        have HST := Aside0.mk hst
        clear hst
        go_wp2_with (fail)
        go_ret
        rw [HAC.out, if_neg (show ¬ (struckP s bs.length = true) by rw [HST.out]; decide)]
        exact ⟨rfl, HIX.out, HW6.out⟩
      | true =>
        have HST := Aside0.mk hst
        clear hst
        have hck2 : w6.cell? ⟨x, 27, none⟩ = some (.slice A1 (burnS s bs.length).keep.length c1) := by rw [← HKE.out]; exact HA6.out.c27
        go_wp2_with (fail)
        have hK4 := HV6.out
        rw [HKE.out] at hK4
        replace hK4 : Rw G .i64 _ (.slice A1 (burnS s bs.length).keep.length c1) (burnS s bs.length).keep := hK4
        have HF := RFall_calls G x _ _ (burnS s bs.length).keep _ HIX.out HOKC.out (Rw.alone hK4 HIX.out.gg) (by rw [HKB.out.2.1]; exact HI64.out)
        refine HF.mono ?_
        rintro e w3 ⟨rfl, hI3, hW3⟩
        have HI3 := Aside0.mk hI3
        have HW3 := Aside0.mk (HW6.out.trans hW3)
        clear hI3 hW3 HF hK4
        go_wp2_with (fail)
        go_ret
        rw [HKB.out.2.1] at HI3
        rw [HAC.out, if_pos HST.out]
        exact ⟨rfl, HI3.out, HW3.out⟩
end Go.Proofs.Ytehjbhnlbjbhfaa.Rd
-- RdH
namespace Go.Proofs.Ytehjbhnlbjbhfaa.Rd
open Go Go.RowKit Go.Proofs.YtehjbhnlbjbhfaaW.PrintWords Go.Proofs.YtehjbhnlbjbhfaaW.PrintLast Go.Proofs.YtehjbhnlbjbhfaaW.PrintMore Go.Proofs.Ytehjbhnlbjbhfaa.Dk
open Go.Proofs.Ytehjbhnlbjbhfaa.PDiskBegins
attribute [local go_sem] max2_int min2_int max_two min_two
set_option linter.unusedVariables false
set_option linter.unusedSimpArgs false
end Go.Proofs.Ytehjbhnlbjbhfaa.Rd
-- RdI
namespace Go.Proofs.Ytehjbhnlbjbhfaa.Rd
open Go Go.RowKit Go.Proofs.YtehjbhnlbjbhfaaW.PrintWords Go.Proofs.YtehjbhnlbjbhfaaW.PrintLast Go.Proofs.YtehjbhnlbjbhfaaW.PrintMore Go.Proofs.Ytehjbhnlbjbhfaa.Dk
open Go.Proofs.Ytehjbhnlbjbhfaa.PDiskBegins
set_option linter.unusedVariables false
def DB (s : DS) : Prop := ∀ f ∈ s.fs, By f.seen ∧ By f.lasts
theorem DB.setF {s : DS} (h : DB s) (i : Nat) {f : Fl} (hf : By f.seen ∧ By f.lasts) : DB (setF s i f) := by
  intro x hx
  rcases List.mem_or_eq_of_mem_set hx with hx | rfl
  · exact h x hx
  · exact hf
theorem read_alike {s : DS} (h : s.room ≠ 0) (i : Int) : readX s i = readP s i := by unfold readX readP; rw [able_may h]
theorem IsD.moreN {G : Nat → Prop} {g : Nat} {W W' : World} {s : DS} (h : IsD G W g s) (hw : Below W.heap.size W W') : IsD (fun k => G k ∨ (W.heap.size ≤ k ∧ k < W'.heap.size)) W' g s := by
  have h' := h.below hw
  obtain ⟨h1, h2, d, hA, hR⟩ := h
  have hs : ∀ k, k < W.heap.size → (G k ∨ (W.heap.size ≤ k ∧ k < W'.heap.size)) → G k := fun k hk hG => hG.elim id (fun e => by omega)
  have hR' : Dk.Rows (fun k => G k ∨ (W.heap.size ≤ k ∧ k < W'.heap.size)) W d s := ⟨hR.1, hR.2.1, hR.2.2.1.grow hs, hR.2.2.2.1, hR.2.2.2.2.1, hR.2.2.2.2.2.1, fun i hi => ⟨(hR.2.2.2.2.2.2 i hi).1.grow hs, (hR.2.2.2.2.2.2 i hi).2.1.grow hs, (hR.2.2.2.2.2.2 i hi).2.2⟩⟩
  exact ⟨fun k hk => hk.elim (h'.lt k) (fun e => e.2), .inl h2, d, hA.same (hw.block g (h1 g h2)), hR'.wr (Wr.of_below hw) (.inl h2)⟩
theorem IsX.moreN {G : Nat → Prop} {g : Nat} {W W' : World} {s : DS} (h : IsX G W g s) (hw : Below W.heap.size W W') : IsX (fun k => G k ∨ (W.heap.size ≤ k ∧ k < W'.heap.size)) W' g s := by
  have h' := h.below hw
  obtain ⟨h1, h2, kv, hA, hR⟩ := h
  have hs : ∀ k, k < W.heap.size → (G k ∨ (W.heap.size ≤ k ∧ k < W'.heap.size)) → G k := fun k hk hG => hG.elim id (fun e => by omega)
  exact ⟨fun k hk => hk.elim (h'.lt k) (fun e => e.2), .inl h2, kv, hA.same (hw.block g (h1 g h2)), (hR.grow hs).wr (Wr.of_below hw) (.inl h2)⟩
theorem row_put {k : IntKind} {e : Nat} {W : World} {base : Nat} {ok : Nat → Prop} {A : Option Addr} {n c : Nat} {ys : List Int} (h : (Kd.int k).R e W base ok (.slice A n c) ys) (hl : ys.length = n) (j : Nat) (hj : j < n) :
    ∃ g, A = some ⟨g, 0, none⟩ ∧ base ≤ g ∧ g < W.heap.size ∧ ok g ∧ W.cell? ⟨g, j, none⟩ = some (.int k (rd ys (j : Int))) ∧ W.frozen? ⟨g, j, none⟩ = false ∧ (∃ cells, W.heap[g]? = some (.cells cells e (0, 0))) ∧ ∀ x, (Kd.int k).R e (W.setCell ⟨g, j, none⟩ (.int k x)) base ok (.slice A n c) (ys.set j x) ∧ (ys.set j x).length = n := by
  subst hl
  obtain ⟨g, cap, hv, hbg, hg, cells, hc⟩ := Kd.R_form h (by omega)
  injection hv with h1 h2 h3
  subst h1 h3
  obtain ⟨ad, e0, hx⟩ := Kd.at_int (Kd.R_reads' h).2.2 (j : Int) (by omega) (by omega)
  cases e0
  rw [Int.toNat_natCast, add_at, Nat.zero_add] at hx
  refine ⟨g, rfl, hbg, hg, h.1 g rfl, hx, blk_frozen hc j, ⟨cells, hc⟩, fun x => ⟨?_, by simp⟩⟩
  have hp := (Kd.R_put h (j : Int) x).1
  rw [Int.toNat_natCast] at hp
  exact hp
theorem other_block {W : World} {g h : Nat} {c1 c2 : Array Value} {t1 t2 : Nat} (h1 : W.heap[g]? = some (.cells c1 t1 (0, 0))) (h2 : W.heap[h]? = some (.cells c2 t2 (0, 0))) (hne : t1 ≠ t2) : g ≠ h := by
  rintro rfl
  rw [h1] at h2
  injection h2 with h2; injection h2 with _ h2 _
  exact hne h2
end Go.Proofs.Ytehjbhnlbjbhfaa.Rd
-- RtA
namespace Go.Proofs.Ytehjbhnlbjbhfaa.Rt
open Go Go.RowKit Go.Proofs.YtehjbhnlbjbhfaaW.PrintWords Go.Proofs.YtehjbhnlbjbhfaaW.PrintLast Go.Proofs.YtehjbhnlbjbhfaaW.PrintMore Go.Proofs.Ytehjbhnlbjbhfaa.Wire Go.Proofs.Ytehjbhnlbjbhfaa.Wk Go.Proofs.Ytehjbhnlbjbhfaa.Dk Go.Proofs.Ytehjbhnlbjbhfaa.Tp Go.Proofs.Ytehjbhnlbjbhfaa.Rd
open Go.Proofs.Ytehjbhnlbjbhfaa.WBase (IsS140 IsS140.set_1 IsS140.set_2 IsS140.drewN IsS140.ge IsS140.new IsS140.below towlineref01_Reader_Number.f towlineref01_Reader_Number.calls cellS71_0 cellS71_1 cellS71_2)
open Go.Proofs.Ytehjbhnlbjbhfaa.PTapePlays (towlineref01_Seal.f towlineref01_Seal.calls towlineref01_Put.f towlineref01_Put.calls towlineref01_Bytes.f towlineref01_Bytes.calls)
open Go.Proofs.Ytehjbhnlbjbhfaa.WkR
set_option linter.unusedVariables false
set_option linter.unusedSimpArgs false
theorem rNum_any (g : Nat) (s : List Int) (p : Nat) (er : Int) (w0 w : World) (hI : IsS140 w0 w g s (p : Int) er) (hB : Below w0.heap.size w0 w) (he : er ≠ 0) :
    Calls Try.prog 98 #[.pointer (some ⟨g, 0, none⟩)] w fun e w' => e = .returned (.int .u64 0) ∧ IsS140 w0 w' g s (p : Int) er ∧ Below w0.heap.size w0 w' ∧ KeepBut w w' g none :=
  towlineref01_Reader_Number.calls 1 g s p er 0 p er w0 w hI hB (by unfold towlineref01_Reader_Number.f; rw [if_neg he])
theorem rNum_made (g : Nat) (s : List Int) (p : Nat) (w0 w : World) (hI : IsS140 w0 w g s (p : Int) 0) (hB : Below w0.heap.size w0 w) (hs : Bs s) (hlen : s.length < 140737488355328) (hp : p ≤ s.length) :
    Calls Try.prog 98 #[.pointer (some ⟨g, 0, none⟩)] w fun e w' => e = .returned (.int .u64 ((numV (num (s.drop p)) : Nat) : Int)) ∧ IsS140 w0 w' g s ((numA p (num (s.drop p)) : Nat) : Int) (num (s.drop p)).2.2 ∧ Below w0.heap.size w0 w' ∧ KeepBut w w' g none := by
  refine towlineref01_Reader_Number.calls 36 g s p 0 _ _ _ w0 w hI hB ?_
  rw [rNumber_eq s hs hlen p hp 36 (by decide)]
  unfold resR numV numA
  by_cases c : (num (s.drop p)).2.2 = 0
  · rw [if_pos c, if_pos c, if_pos c, c]
  · rw [if_neg c, if_neg c, if_neg c]; rfl
set_option maxHeartbeats 8000000 in
set_option maxRecDepth 100000 in
theorem rWithin_calls (g : Nat) (s : List Int) (p : Nat) (er lo hi : Int) (w0 w : World) (hI : IsS140 w0 w g s (p : Int) er) (hB : Below w0.heap.size w0 w) (hs : Bs s) (hlen : s.length < 140737488355328) (hp : p ≤ s.length) :
    Calls Try.prog 85 #[.pointer (some ⟨g, 0, none⟩), .int .i64 lo, .int .i64 hi] w fun e w' => e = .returned (.int .i64 (withinP s lo hi p er).1) ∧ IsS140 w0 w' g s ((withinP s lo hi p er).2.1 : Int) (withinP s lo hi p er).2.2 ∧ Below w0.heap.size w0 w' ∧ KeepBut w w' g none := by
  have HI := Aside0.mk hI
  obtain ⟨r, hr⟩ : ∃ r, withinP s lo hi p er = r := ⟨_, rfl⟩
  rw [hr]
  have HR := Aside0.mk hr
  clear hr
  by_cases c0 : er = 0
  rotate_left
  · have HP := Aside0.mk (show withinP s lo hi p er = (0, p, er) by unfold withinP; rw [if_pos c0])
    have HNM := Aside0.mk (rNum_any g s p er w0 w hI hB c0)
    have d1 : (er != (0 : Int)) = true := by simpa using c0
    have d2 : (er == (0 : Int)) = false := by simpa using c0
    clear hI hB hs hlen hp c0
    obtain ⟨A0, c0, HG0, _, _⟩ := HI.out
    have hc_1 := cellS71_1 HG0
    clear HG0
    go_enter Try.func85, Try.ntmps85
    go_wp2_with (fail)
    refine HNM.out.mono ?_
    rintro e w1 ⟨rfl, hI1, hB1, hK1⟩
    have HI1 := Aside0.mk hI1
    have HB1 := Aside0.mk hB1
    have HK1 := Aside0.mk hK1
    have HGE := Aside0.mk (IsS140.ge hI1)
    obtain ⟨A1, c1, HG1, _, _⟩ := hI1
    have hd_1 := cellS71_1 HG1
    have hd_2 := cellS71_2 HG1
    have hf_1 := blk_frozen HG1 1
    have hf_2 := blk_frozen HG1 2
    clear HG1 hB1 hK1 hc_1
    go_wp2
    go_ret
    rw [← HR.out, HP.out]
    exact ⟨rfl, HI1.out, HB1.out, HK1.out⟩
  subst c0
  have HNM := Aside0.mk (rNum_made g s p w0 w hI hB hs hlen hp)
  have hlt := num_lt (s.drop p)
  obtain ⟨⟨nv, nk, ne⟩, hnum⟩ : ∃ q, num (s.drop p) = q := ⟨_, rfl⟩
  rw [hnum] at HNM hlt
  simp only at hlt
  by_cases c1 : ne = 0
  rotate_left
  · have HP := Aside0.mk (show withinP s lo hi p 0 = (0, p, ne) by unfold withinP; rw [if_neg (fun h => h rfl), hnum, if_pos c1])
    have HV := Aside0.mk (show numV (nv, nk, ne) = 0 ∧ numA p (nv, nk, ne) = p by unfold numV numA; exact ⟨if_neg c1, if_neg c1⟩)
    have d1 : (ne != (0 : Int)) = true := by simpa using c1
    have d2 : (ne == (0 : Int)) = false := by simpa using c1
    rw [HV.out.1, HV.out.2] at HNM
    clear hI hB hs hlen hp c1 hnum hlt
    obtain ⟨A0, c0, HG0, _, _⟩ := HI.out
    have hc_1 := cellS71_1 HG0
    clear HG0
    go_enter Try.func85, Try.ntmps85
    go_wp2_with (fail)
    refine HNM.out.mono ?_
    rintro e w1 ⟨rfl, hI1, hB1, hK1⟩
    have HI1 := Aside0.mk hI1
    have HB1 := Aside0.mk hB1
    have HK1 := Aside0.mk hK1
    have HGE := Aside0.mk (IsS140.ge hI1)
    obtain ⟨A1, c1, HG1, _, _⟩ := hI1
    have hd_1 := cellS71_1 HG1
    have hd_2 := cellS71_2 HG1
    have hf_1 := blk_frozen HG1 1
    have hf_2 := blk_frozen HG1 2
    clear HG1 hB1 hK1 hc_1
    go_wp2
    go_ret
    rw [← HR.out, HP.out]
    exact ⟨rfl, HI1.out, HB1.out, HK1.out⟩
  subst c1
  have HV := Aside0.mk (show numV (nv, nk, 0) = nv ∧ numA p (nv, nk, 0) = p + nk from ⟨rfl, rfl⟩)
  rw [HV.out.1, HV.out.2] at HNM
  have hwp : withinP s lo hi p 0 = if 4611686018427387904 < nv ∨ ((nv : Nat) : Int) < lo ∨ hi < ((nv : Nat) : Int) then (0, p, 5) else (((nv : Nat) : Int), p + nk, 0) := by
    unfold withinP; rw [if_neg (fun h => h rfl), hnum]; exact if_neg (fun h => h rfl)
  by_cases c2 : 4611686018427387904 < nv
  · have HP := Aside0.mk (show withinP s lo hi p 0 = (0, p, 5) by rw [hwp, if_pos (.inl c2)])
    have d1 : decide (((nv : Nat) : Int) > 4611686018427387904) = true := decide_eq_true (by omega)
    have d2 : decide ((4611686018427387904 : Int) < ((nv : Nat) : Int)) = true := decide_eq_true (by omega)
    clear hI hB hs hlen hp c2 hnum hlt hwp
    obtain ⟨A0, c0, HG0, _, _⟩ := HI.out
    have hc_1 := cellS71_1 HG0
    clear HG0
    go_enter Try.func85, Try.ntmps85
    go_wp2_with (fail)
    refine HNM.out.mono ?_
    rintro e w1 ⟨rfl, hI1, hB1, hK1⟩
    have HI1 := Aside0.mk hI1
    have HB1 := Aside0.mk hB1
    have HK1 := Aside0.mk hK1
    have HGE := Aside0.mk (IsS140.ge hI1)
    obtain ⟨A1, c1, HG1, _, _⟩ := hI1
    have hd_1 := cellS71_1 HG1
    have hd_2 := cellS71_2 HG1
    have hf_1 := blk_frozen HG1 1
    have hf_2 := blk_frozen HG1 2
    clear HG1 hB1 hK1 hc_1
    go_wp2
    go_ret
    rw [← HR.out, HP.out]
    exact ⟨rfl, IsS140.set_2 (IsS140.set_1 HI1.out _) _, (HB1.out.setCell (p := ⟨g, 1, none⟩) HGE.out _).setCell (p := ⟨g, 2, none⟩) HGE.out _, (by repeat (first | (with_reducible first | exact HK1.out | apply KeepBut.set_ | apply keep_drewN | apply keep_drew | apply keep_alloc) | exact HK1.out))⟩
  have hw : wrap64 ((nv : Nat) : Int) = ((nv : Nat) : Int) := by unfold wrap64; omega
  have d1 : decide (((nv : Nat) : Int) > 4611686018427387904) = false := decide_eq_false (by omega)
  have d2 : decide ((4611686018427387904 : Int) < ((nv : Nat) : Int)) = false := decide_eq_false (by omega)
  by_cases c3 : ((nv : Nat) : Int) < lo
  · have HP := Aside0.mk (show withinP s lo hi p 0 = (0, p, 5) by rw [hwp, if_pos (.inr (.inl c3))])
    have d3 : decide (((nv : Nat) : Int) < lo) = true := decide_eq_true c3
    clear hI hB hs hlen hp c2 c3 hnum hlt hwp
    obtain ⟨A0, c0, HG0, _, _⟩ := HI.out
    have hc_1 := cellS71_1 HG0
    clear HG0
    go_enter Try.func85, Try.ntmps85
    go_wp2_with (fail)
    refine HNM.out.mono ?_
    rintro e w1 ⟨rfl, hI1, hB1, hK1⟩
    have HI1 := Aside0.mk hI1
    have HB1 := Aside0.mk hB1
    have HK1 := Aside0.mk hK1
    have HGE := Aside0.mk (IsS140.ge hI1)
    obtain ⟨A1, c1, HG1, _, _⟩ := hI1
    have hd_1 := cellS71_1 HG1
    have hd_2 := cellS71_2 HG1
    have hf_1 := blk_frozen HG1 1
    have hf_2 := blk_frozen HG1 2
    clear HG1 hB1 hK1 hc_1
    go_wp2
    go_ret
    rw [← HR.out, HP.out]
    exact ⟨rfl, IsS140.set_2 (IsS140.set_1 HI1.out _) _, (HB1.out.setCell (p := ⟨g, 1, none⟩) HGE.out _).setCell (p := ⟨g, 2, none⟩) HGE.out _, (by repeat (first | (with_reducible first | exact HK1.out | apply KeepBut.set_ | apply keep_drewN | apply keep_drew | apply keep_alloc) | exact HK1.out))⟩
  have d3 : decide (((nv : Nat) : Int) < lo) = false := decide_eq_false c3
  by_cases c4 : hi < ((nv : Nat) : Int)
  · have HP := Aside0.mk (show withinP s lo hi p 0 = (0, p, 5) by rw [hwp, if_pos (.inr (.inr c4))])
    have d4 : decide (((nv : Nat) : Int) > hi) = true := decide_eq_true c4
    have d5 : decide (hi < ((nv : Nat) : Int)) = true := decide_eq_true c4
    clear hI hB hs hlen hp c2 c3 c4 hnum hlt hwp
    obtain ⟨A0, c0, HG0, _, _⟩ := HI.out
    have hc_1 := cellS71_1 HG0
    clear HG0
    go_enter Try.func85, Try.ntmps85
    go_wp2_with (fail)
    refine HNM.out.mono ?_
    rintro e w1 ⟨rfl, hI1, hB1, hK1⟩
    have HI1 := Aside0.mk hI1
    have HB1 := Aside0.mk hB1
    have HK1 := Aside0.mk hK1
    have HGE := Aside0.mk (IsS140.ge hI1)
    obtain ⟨A1, c1, HG1, _, _⟩ := hI1
    have hd_1 := cellS71_1 HG1
    have hd_2 := cellS71_2 HG1
    have hf_1 := blk_frozen HG1 1
    have hf_2 := blk_frozen HG1 2
    clear HG1 hB1 hK1 hc_1
    go_wp2
    go_ret
    rw [← HR.out, HP.out]
    exact ⟨rfl, IsS140.set_2 (IsS140.set_1 HI1.out _) _, (HB1.out.setCell (p := ⟨g, 1, none⟩) HGE.out _).setCell (p := ⟨g, 2, none⟩) HGE.out _, (by repeat (first | (with_reducible first | exact HK1.out | apply KeepBut.set_ | apply keep_drewN | apply keep_drew | apply keep_alloc) | exact HK1.out))⟩
  · have HP := Aside0.mk (show withinP s lo hi p 0 = (((nv : Nat) : Int), p + nk, 0) by rw [hwp, if_neg (by omega)])
    have d4 : decide (((nv : Nat) : Int) > hi) = false := decide_eq_false c4
    have d5 : decide (hi < ((nv : Nat) : Int)) = false := decide_eq_false c4
    clear hI hB hs hlen hp c2 c3 c4 hnum hlt hwp
    obtain ⟨A0, c0, HG0, _, _⟩ := HI.out
    have hc_1 := cellS71_1 HG0
    clear HG0
    go_enter Try.func85, Try.ntmps85
    go_wp2_with (fail)
    refine HNM.out.mono ?_
    rintro e w1 ⟨rfl, hI1, hB1, hK1⟩
    have HI1 := Aside0.mk hI1
    have HB1 := Aside0.mk hB1
    have HK1 := Aside0.mk hK1
    have HGE := Aside0.mk (IsS140.ge hI1)
    obtain ⟨A1, c1, HG1, _, _⟩ := hI1
    have hd_1 := cellS71_1 HG1
    have hd_2 := cellS71_2 HG1
    have hf_1 := blk_frozen HG1 1
    have hf_2 := blk_frozen HG1 2
    clear HG1 hB1 hK1 hc_1
    go_wp2
    go_ret
    rw [← HR.out, HP.out]
    exact ⟨by first | rfl | (rw [hw]; rfl), HI1.out, HB1.out, HK1.out⟩
theorem rEnd_calls (g : Nat) (s : List Int) (p : Nat) (er : Int) (w0 w : World) (hI : IsS140 w0 w g s (p : Int) er) : Calls Try.prog 87 #[.pointer (some ⟨g, 0, none⟩)] w fun e w' => e = .returned (.int .i64 (endP s p er)) ∧ Drawn0 w w' := by
  obtain ⟨A, c, HG, hg, HS⟩ := hI
  have hc_0 := cellS71_0 HG
  have hc_1 := cellS71_1 HG
  have hc_2 := cellS71_2 HG
  clear hg HG HS
  unfold endP
  by_cases c0 : er = 0
  · subst c0
    rw [if_neg (fun h => h rfl)]
    by_cases c1 : p < s.length
    · rw [if_pos c1]
      have d3 : decide ((p : Int) < (s.length : Int)) = true := decide_eq_true (by omega)
      have d4 : decide (p < s.length) = true := decide_eq_true c1
      clear c1
      go_enter Try.func87, Try.ntmps87
      go_wp2
      go_quiet (fail)
      go_wp2
      go_ret
      exact ⟨rfl, _, rfl⟩
    · rw [if_neg c1]
      have d3 : decide ((p : Int) < (s.length : Int)) = false := decide_eq_false (by omega)
      have d4 : decide (p < s.length) = false := decide_eq_false c1
      clear c1
      go_enter Try.func87, Try.ntmps87
      go_wp2
      go_quiet (fail)
      go_wp2
      go_ret
      exact ⟨rfl, _, rfl⟩
  · rw [if_pos c0]
    have d1 : (er != (0 : Int)) = true := by simpa using c0
    have d2 : (er == (0 : Int)) = false := by simpa using c0
    clear c0
    go_enter Try.func87, Try.ntmps87
    go_wp2
    go_quiet (fail)
    go_wp2
    go_ret
    exact ⟨rfl, _, rfl⟩
set_option maxHeartbeats 8000000 in
set_option maxRecDepth 100000 in
theorem rBytesE_calls (g : Nat) (s : List Int) (p : Nat) (er most : Int) (hmost : -9223372036854775808 ≤ most ∧ most ≤ 9223372036854775807) (w0 w : World) (hI : IsS140 w0 w g s (p : Int) er) (hB : Below w0.heap.size w0 w) (hs : Bs s) (hlen : s.length < 140737488355328) (hat : p ≤ s.length) :
    Calls Try.prog 86 #[.pointer (some ⟨g, 0, none⟩), .int .i64 most] w fun e w' => ∃ v, e = .returned v ∧ Kd.R (Kd.int .u8) 5 w' w.heap.size (fun k => k ≠ g) v (bytesE s most p er).1 ∧ IsS140 w0 w' g s ((bytesE s most p er).2.1 : Int) (bytesE s most p er).2.2 ∧ Below w0.heap.size w0 w' ∧ KeepBut w w' g none := by
  by_cases c0 : er = 0
  · subst c0
    have HP := Aside0.mk (show bytesE s most p 0 = bytesP s p most by unfold bytesE; rw [if_neg (fun h => h rfl)])
    rw [HP.out]
    exact rBytes_calls g s p most hmost w0 w hI hB hs hlen hat
  · have HP := Aside0.mk (show bytesE s most p er = ([], p, er) by unfold bytesE; rw [if_pos c0])
    rw [HP.out]
    have HN := Aside0.mk (towlineref01_Reader_Number.calls 1 g s p er 0 p er w0 w hI hB (by unfold towlineref01_Reader_Number.f; rw [if_neg c0]))
    have hI0 := hI
    obtain ⟨A, c, HG, hg, HS⟩ := hI
    have hc_1 := cellS71_1 HG
    have d1 : (er != (0 : Int)) = true := by simpa using c0
    have d2 : (er == (0 : Int)) = false := by simpa using c0
    clear hI0 HG HS hg hB hs hlen hat c0
    go_enter Try.func86, Try.ntmps86
    go_wp2_with (fail)
    refine HN.out.mono ?_
    rintro e w1 ⟨rfl, hI1, hB1, hK1⟩
    have HI1 := Aside0.mk hI1
    have HB1 := Aside0.mk hB1
    have HK1 := Aside0.mk hK1
    obtain ⟨A1, c1, HG1, hg1, HS1⟩ := hI1
    have hc_2 := cellS71_2 HG1
    clear HG1 HS1 hg1 hB1 hK1 hc_1
    go_wp2
    go_ret
    exact ⟨_, rfl, Kd.R_nil _ _ _ _ _, HI1.out, HB1.out, HK1.out⟩
theorem rsealE (l : List Int) (hb : Bs l) : towlineref01_Seal.f 90001 l = some (sealE l) := by
  unfold sealE
  by_cases h : 8192 < l.length
  · unfold towlineref01_Seal.f; rw [if_pos (by omega), if_pos h]
  · rw [if_neg h]; exact rseal l hb (by omega) 90001 (by decide)
theorem rSealE_calls (A0 : Option Addr) (c0 : Nat) (l0 : List Int) (w : World) (hr0 : Kd.C (Kd.int .u8) w A0 l0.length l0) (hc0 : l0.length ≤ c0) (hb : Bs l0) :
    Calls Try.prog 71 #[.slice A0 l0.length c0] w fun e w' => ∃ v0_ : Value, e = .returned (.tuple #[v0_, .int .i64 (sealE l0).2]) ∧ Kd.R (Kd.int .u8) 5 w' w.heap.size (fun _ => True) v0_ (sealE l0).1 ∧ Below w.heap.size w w' :=
  towlineref01_Seal.calls 90001 A0 c0 l0 _ _ w hr0 hc0 (rsealE l0 hb)
theorem rbytes (l b : List Int) (hl : l.length + b.length < 1000000000) : towlineref01_Bytes.f 100 l b = some (l ++ recP b) := by
  have hw : IntKind.u64.wrap (b.length : Int) = (b.length : Int) := by rw [u64w]; omega
  have hes : Wire.encs [(b.length : Int)] = enc 9 b.length := by simp [Wire.encs]
  have hen := enc_len 9 b.length
  unfold towlineref01_Bytes.f recP
  rw [hw, rput l [(b.length : Int)] (by simp; omega) (by simp only [List.length_singleton]; omega) _ (by simp only [List.length_singleton]; omega), Option.bind_some, hes, if_pos (by rw [List.length_append]; omega), List.append_assoc]
theorem conv_row (w : World) (b : List Int) (hb : Bs b) (hl : b.length < 1000000000) (cap : Nat) (fr : Nat × Nat) : (Kd.int .u8).C ((w.alloc (.cells (bytesRow (strOfNums b) cap) 5 fr)).drew) (some ⟨w.heap.size, 0, none⟩) b.length b ∧ Below w.heap.size w ((w.alloc (.cells (bytesRow (strOfNums b) cap) 5 fr)).drew) :=
  ⟨Kd.C_drew (string_row b hb cap fr 5 (by omega)), below_drew1 (below_alloc (Below.refl _ _) _)⟩
set_option maxHeartbeats 8000000 in
set_option maxRecDepth 100000 in
theorem rHead_calls (gen many : Int) (b : List Int) (w : World) (hb : Bs b) (hg : 0 ≤ gen ∧ gen < 9223372036854775808) (hm : 0 ≤ many ∧ many < 9223372036854775808) (hl : b.length < 1000000) :
    Calls Try.prog 70 #[.int .i64 gen, .int .i64 many, .string (strOfNums b)] w fun e w' => ∃ v, e = .returned (.tuple #[v, .int .i64 (headE gen many b).2]) ∧ Kd.R (Kd.int .u8) 5 w' w.heap.size (fun _ => True) v (headE gen many b).1 ∧ Below w.heap.size w w' := by
  have e1 : IntKind.u64.wrap gen = gen := by rw [u64w]; omega
  have e2 : IntKind.u64.wrap many = many := by rw [u64w]; omega
  have hn : ∀ x ∈ [gen, many], (0 : Int) ≤ x ∧ x < 18446744073709551616 := by
    intro x hx
    rcases List.mem_cons.1 hx with rfl | hx
    · omega
    · rcases List.mem_cons.1 hx with rfl | hx
      · omega
      · cases hx
  have hen := encs_len [gen, many]
  simp only [List.length_cons, List.length_nil] at hen
  have HP := Aside0.mk (rput [] [gen, many] hn (by simp only [List.length_cons, List.length_nil]; omega) 100 (by simp only [List.length_cons, List.length_nil]; omega))
  have HQ := Aside0.mk (rbytes (Wire.encs [gen, many]) b (by omega))
  have HBS := Aside0.mk (show Bs (Wire.encs [gen, many] ++ recP b) from (encs_bs hn).app (rec_bs hb (by omega)))
  have HBB := Aside0.mk (show By b from hb)
  have HBL := Aside0.mk hl
  have hhe : headE gen many b = sealE (Wire.encs [gen, many] ++ recP b) := rfl
  generalize Wire.encs [gen, many] ++ recP b = H at *
  rw [hhe]
  clear hhe
  have HN := Aside0.mk hn
  have HCV := Aside0.mk (fun (w : World) => run_bytes_of_string (P := Try.prog) w 9 32 5 (strOfNums b) Try.underlying9 Try.underlying32 Try.underlying5)
  rw [strOfNums_size b] at HCV
  obtain ⟨st, hst⟩ : ∃ st, strOfNums b = st := ⟨_, rfl⟩
  have HST := Aside0.mk hst
  rw [hst] at HCV ⊢
  have hcv := HCV.out
  clear hst hb hg hm hl hn hen
  go_enter Try.func70, Try.ntmps70
  go_wp2_with (fail)
  refine (towlineref01_Put.calls 100 none 0 [] (some ⟨w.heap.size, 0, none⟩) 2 [gen, many] _ _ (Kd.C_nil _ _) (Nat.le_refl _) (Kd.V_reads' (lit_row (G := fun _ => False) .u64 w [gen, many] 130 (0, 0) (fun _ h => h.elim) (by simp))).2.2 (Nat.le_refl _) HP.out).mono ?_
  rintro e w1 ⟨v1, rfl, hR, hb⟩
  obtain ⟨P1, p1, rfl⟩ := Kd.R_slice hR
  have HR1 := Aside0.mk (Kd.R_reads' hR)
  rw [List.nil_append] at HR1
  rw [List.nil_append]
  have HB1 := Aside0.mk (below_step (below_alloc (Below.refl w.heap.size w) _) hb)
  clear hR hb
  go_wp2_with (fail)
  have HCV2 := Aside0.mk (conv_row w1 b HBB.out (by have := HBL.out; omega) (grownCap w1 b.length 0 5) ((bytesRow st (grownCap w1 b.length 0 5)).size, (bytesRow st (grownCap w1 b.length 0 5)).size + 1))
  rw [HST.out] at HCV2
  have HGC := Aside0.mk (show b.length ≤ grownCap w1 b.length 0 5 from grownCap_ge _ _ _ _)
  refine (towlineref01_Bytes.calls 100 P1 p1 _ _ _ b _ _ (Kd.C_below HR1.out.2.2 HCV2.out.2) HR1.out.2.1 HCV2.out.1 HGC.out HQ.out).mono ?_
  rintro e w2 ⟨v2, rfl, hR, hb⟩
  obtain ⟨P2, p2, rfl⟩ := Kd.R_slice hR
  have HR2 := Aside0.mk (Kd.R_reads' hR)
  have HB2 := Aside0.mk (below_step (below_step HB1.out HCV2.out.2) hb)
  clear hR hb HR1 HB1 HCV2 HGC
  go_wp2_with (fail)
  refine (rSealE_calls P2 p2 _ _ HR2.out.2.2 HR2.out.2.1 HBS.out).mono ?_
  rintro e w3 ⟨v3, rfl, hR, hb⟩
  have HR3 := Aside0.mk (Kd.R_lower hR HB2.out.size)
  have HB3 := Aside0.mk (below_step HB2.out hb)
  clear hR hb HR2
  go_wp2_with (fail)
  go_ret2
  exact ⟨_, rfl, HR3.out, HB3.out⟩
abbrev docCells (x : TS) (bs : ByteArray) (lV : Value) (g : Nat) : Array Value := #[.pointer (some ⟨g, 0, none⟩), .int .i64 x.r.gen, .string bs, lV, .int .i64 (x.file : Int), .int .i64 (x.kept : Int)]
structure IsY (G : Nat → Prop) (W : World) (y g : Nat) (x : TS) : Prop where
  gt : G y
  ex : ∃ lV, W.heap[y]? = some (.cells (docCells x (strOfNums x.r.base) lV g) 92 (0, 0)) ∧ St G W lV (x.r.l.map strOfNums)
theorem IsY.lt {G : Nat → Prop} {W : World} {t g : Nat} {x : TS} (h : IsY G W t g x) : t < W.heap.size := by
  obtain ⟨_, lV, hb, _⟩ := h
  exact blk_lt hb
theorem IsY.ws {G P : Nat → Prop} {W W' : World} {t g : Nat} {x : TS} (h : IsY G W t g x) (hw : Ws P W W') (hg : ∀ b, P b → G b) (hne : ¬ P t) : IsY G W' t g x := by
  have hlt := h.lt
  obtain ⟨h1, lV, hb, hL⟩ := h
  exact ⟨h1, lV, (hw.block t hlt hne).trans hb, hL.ws hw hg⟩
theorem IsY.below {G : Nat → Prop} {W W' : World} {t g : Nat} {x : TS} (h : IsY G W t g x) (hw : Below W.heap.size W W') : IsY G W' t g x := h.ws (P := fun _ => False) (Ws.of_below hw) (fun _ h => h.elim) (fun h => h)
theorem IsY.grow {G G' : Nat → Prop} {W : World} {t g : Nat} {x : TS} (h : IsY G W t g x) (hg : G' t) (hs : ∀ k, k < W.heap.size → G' k → G k) : IsY G' W t g x := by
  obtain ⟨h1, lV, hb, hL⟩ := h
  exact ⟨hg, lV, hb, hL.grow hs⟩
theorem IsY.ne {G : Nat → Prop} {W : World} {t g : Nat} {x : TS} {s : DS} (h : IsY G W t g x) (k : IsX G W g s) : t ≠ g := by
  intro e
  subst e
  obtain ⟨_, lV, hb, _⟩ := h
  obtain ⟨_, _, kv, hA, _⟩ := k
  have := hA.2
  rw [hb] at this
  injection this with this
  injection this with _ h2 _
  exact absurd h2 (by decide)
theorem IsX.ws {G P : Nat → Prop} {g : Nat} {W W' : World} {s : DS} (h : IsX G W g s) (hw : Ws P W W') (hg : ∀ b, P b → G b) (hne : ¬ P g) : IsX G W' g s := by
  obtain ⟨h1, h2, kv, hA, hR⟩ := h
  exact ⟨fun b hb => Nat.lt_of_lt_of_le (h1 b hb) hw.size, h2, kv, hA.same (hw.block g (h1 g h2) hne), Rw.ws hR hw hg⟩
theorem IsX.wsmore {G P : Nat → Prop} {g b : Nat} {W W' : World} {s : DS} (h : IsX G W g s) (hw : Ws P W W') (hg : ∀ k, P k → G k) (hne : ¬ P g) (hb : W.heap.size ≤ b) (hb' : b < W'.heap.size) : IsX (fun k => G k ∨ k = b) W' g s := by
  have h' := IsX.ws h hw hg hne
  obtain ⟨h1, h2, kv, hA, hR⟩ := h
  exact ⟨fun k hk => hk.elim (h'.lt k) (fun e => e ▸ hb'), .inl h2, kv, hA.same (hw.block g (h1 g h2) hne), Rw.ws (hR.grow (fun k hk hG => hG.elim id (fun e => by omega))) hw (fun k hk => .inl (hg k hk))⟩
theorem IsY.put {G : Nat → Prop} {W : World} {t g : Nat} {x y : TS} {bV bV' : ByteArray} {lV lV' : Value} (h : W.heap[t]? = some (.cells (docCells x bV lV g) 92 (0, 0))) (hG : G t) (i : Nat) (u : Value) (e : (docCells x bV lV g).setIfInBounds i u = docCells y bV' lV' g) (hB : bV' = strOfNums y.r.base) (hL : St G W lV' (y.r.l.map strOfNums)) : IsY G (W.setCell ⟨t, i, none⟩ u) t g y :=
  ⟨hG, lV', by rw [← hB]; exact blk_put h i u e, hL.ws (Ws.of_set W (P := fun b => b = t) rfl i u) (fun b e => e ▸ hG)⟩
end Go.Proofs.Ytehjbhnlbjbhfaa.Rt
-- RtB
namespace Go.Proofs.Ytehjbhnlbjbhfaa.Rt
open Go Go.RowKit Go.Proofs.YtehjbhnlbjbhfaaW.PrintWords Go.Proofs.YtehjbhnlbjbhfaaW.PrintLast Go.Proofs.YtehjbhnlbjbhfaaW.PrintMore Go.Proofs.Ytehjbhnlbjbhfaa.Wire Go.Proofs.Ytehjbhnlbjbhfaa.Wk Go.Proofs.Ytehjbhnlbjbhfaa.Dk Go.Proofs.Ytehjbhnlbjbhfaa.Tp Go.Proofs.Ytehjbhnlbjbhfaa.Rd
open Go.Proofs.Ytehjbhnlbjbhfaa.WBase (IsS140 IsS140.set_1 IsS140.set_2 IsS140.drewN IsS140.ge IsS140.new IsS140.below)
open Go.Proofs.Ytehjbhnlbjbhfaa.WkR
set_option linter.unusedVariables false
set_option linter.unusedSimpArgs false
theorem results_tmp4 {fn : Func} {t u v x : Tmp} (h : fn.results = #[.tmp t, .tmp u, .tmp v, .tmp x]) (tmps : Array Value) (P : Program) (w : World) :
    (results fn tmps).run P w = .ok (.tuple #[tmps.getD t undef, tmps.getD u undef, tmps.getD v undef, tmps.getD x undef]) w := by
  simp [results, h]
set_option maxHeartbeats 8000000 in
set_option maxRecDepth 100000 in
theorem reel_calls (A0 : Option Addr) (c0 : Nat) (b : List Int) (w : World) (hr0 : Kd.C (Kd.int .u8) w A0 b.length b) (hc0 : b.length ≤ c0) (hs : Bs b) (hlen : b.length < 1000000000) :
    Calls Try.prog 68 #[.slice A0 b.length c0] w fun e w' => ∃ v, e = .returned (.tuple #[.int .i64 (readT b).1.gen, .string (strOfNums (readT b).1.base), v, .bool (readT b).2]) ∧ Kd.R Kd.string 9 w' w.heap.size (fun _ => True) v ((readT b).1.l.map strOfNums) ∧ Below w.heap.size w w' := by
  obtain ⟨r, hr⟩ : ∃ r, readT b = r := ⟨_, rfl⟩
  rw [hr]
  have HR := Aside0.mk hr
  have HFL := Aside0.mk (allP_flat hs)
  have HAL := Aside0.mk (rAll_calls A0 c0 b w hr0 hc0 hs hlen)
  have HLEN := Aside0.mk hlen
  obtain ⟨⟨ls, n⟩, hls⟩ : ∃ q, allP b = q := ⟨_, rfl⟩
  rw [hls] at HFL HAL
  have HLS := Aside0.mk hls
  clear hr0 hc0 hs hlen hr hls
  go_enter Try.func68, Try.ntmps68
  go_wp2_with (fail)
  refine HAL.out.mono ?_
  rintro e w1 ⟨v, rfl, hR1, hB1⟩
  obtain ⟨Av, cv, rfl⟩ := Kd.R_slice hR1
  have HR1 := Aside0.mk hR1
  have HB1 := Aside0.mk hB1
  clear hR1 hB1 HAL
  cases ls with
  | nil =>
    have HP := Aside0.mk (show readT b = (noReel, decide (0 < b.length)) by unfold readT; rw [HLS.out])
    obtain ⟨more, hm⟩ : ∃ m : Bool, decide (0 < b.length) = m := ⟨_, rfl⟩
    have hm1 : decide ((b.length : Int) > 0) = more := by rw [← hm]; simp
    have hm2 : decide ((0 : Int) < (b.length : Int)) = more := by rw [← hm]; simp
    go_wp2
    (try simp only [Exit.inBlock, Exit.then]); refine bodyPost_ret (results_tmp4 rfl _ _ _) rfl ?_
    rw [← HR.out, HP.out]
    exact ⟨_, by rw [hm]; rfl, Kd.R_nil _ _ _ _ _, HB1.out⟩
  | cons s rest =>
    have hsl := HFL.out
    have hSB := (hsl.2.2 s (List.mem_cons_self ..))
    have HSB := Aside0.mk hSB.1
    have HSL := Aside0.mk (show s.length < 140737488355328 by have := hSB.2; omega)
    have HRL := Aside0.mk (show rest.length < 1000000000 by
      have h1 := flat_len (s :: rest)
      rw [hsl.2.1, List.length_take, List.length_cons] at h1
      have := HLEN.out
      omega)
    obtain ⟨ad, A2, c2, e0, hc2, hC2, hx⟩ := bb_get (Kd.R_reads' HR1.out).2.2 0 (by simp)
    subst e0
    have hC2' : Kd.C (Kd.int .u8) w1 A2 s.length s := hC2
    have hc2' : s.length ≤ c2 := hc2
    have hadd : ad.add 0 = ad := by cases ad; simp [Addr.add]
    have hx' : w1.cell? (ad.add 0) = some (.slice A2 s.length c2) := hx
    rw [hadd] at hx'
    obtain ⟨LN, hLN⟩ : ∃ LN : Nat, (s :: rest).length = LN := ⟨_, rfl⟩
    have hLN1 : LN = rest.length + 1 := by rw [← hLN]; rfl
    have HLN := Aside0.mk hLN1
    have HRV := Aside0.mk (show Kd.V KdB 0 w1 0 (fun k => True) (.slice (some ad) LN cv) (s :: rest) by
      rw [← hLN]
      exact (show Kd.V KdB 32 w1 0 (fun k => True) (.slice (some ad) (s :: rest).length cv) (s :: rest) from Kd.R_V (Kd.R_mono (Kd.R_bound HR1.out) (fun k hk => trivial))))
    have HI1 := Aside0.mk (IsS140.new w1 w1 A2 c2 s 0 0 (Below.refl _ _) ⟨hC2', hc2'⟩)
    have HN1 := Aside0.mk (below_alloc (Below.refl w1.heap.size w1) (.cells #[.slice A2 s.length c2, .int .i64 0, .int .i64 0] 140))
    rw [hLN]
    have e1 : ((LN : Int) == (0 : Int)) = false := by simp; omega
    have hi1 : (0 : Int) < (LN : Int) := by omega
    obtain ⟨g, hg⟩ : ∃ g, w1.heap.size = g := ⟨_, rfl⟩
    rw [hg] at HI1
    clear hsl hSB hC2 hc2 hx hC2' hc2' hadd hLN HR1 hLN1
    go_wp2_with (fail)
    refine (rWithin_calls g s 0 0 1 1099511627776 w1 _ HI1.out HN1.out HSB.out HSL.out (Nat.zero_le _)).mono ?_
    obtain ⟨g1, p1, er1, hw1⟩ : ∃ g1 p1 er1, withinP s 1 1099511627776 0 0 = (g1, p1, er1) := ⟨_, _, _, rfl⟩
    have HQ1 := Aside0.mk hw1
    have HP1 := Aside0.mk (show p1 ≤ s.length by have := withinP_le (s := s) (lo := 1) (hi := 1099511627776) (er := 0) (Nat.zero_le s.length); rw [hw1] at this; exact this)
    rw [hw1]
    clear hw1
    rintro e w2 ⟨rfl, hI, hB, hK⟩
    have HI2 := Aside0.mk hI
    have HB2 := Aside0.mk hB
    clear hI hB hK HI1 HN1 hx'
    go_wp2_with (fail)
    refine (rWithin_calls g s p1 er1 0 1099511627776 w1 _ HI2.out HB2.out HSB.out HSL.out HP1.out).mono ?_
    obtain ⟨many, p2, er2, hw2⟩ : ∃ many p2 er2, withinP s 0 1099511627776 p1 er1 = (many, p2, er2) := ⟨_, _, _, rfl⟩
    have HQ2 := Aside0.mk hw2
    have HP2 := Aside0.mk (show p2 ≤ s.length by have := withinP_le (s := s) (lo := 0) (hi := 1099511627776) (er := er1) HP1.out; rw [hw2] at this; exact this)
    rw [hw2]
    clear hw2
    rintro e w3 ⟨rfl, hI, hB, hK⟩
    have HI3 := Aside0.mk hI
    have HB3 := Aside0.mk hB
    clear hI hB hK HI2 HB2
    go_wp2_with (fail)
    refine (rBytesE_calls g s p2 er2 8176 (by decide) w1 _ HI3.out HB3.out HSB.out HSL.out HP2.out).mono ?_
    obtain ⟨bs, p3, er3, hw3⟩ : ∃ bs p3 er3, bytesE s 8176 p2 er2 = (bs, p3, er3) := ⟨_, _, _, rfl⟩
    have HQ3 := Aside0.mk hw3
    rw [hw3]
    clear hw3
    rintro e w4 ⟨vb, rfl, hRb, hI, hB, hK⟩
    obtain ⟨Ab, cb, rfl⟩ := Kd.R_slice hRb
    have HI4 := Aside0.mk hI
    have HB4 := Aside0.mk hB
    have hcv := Kd.C_string (P := Try.prog) (A := Ab) (c := cb) Try.underlying32 Try.underlying5 Try.underlying9 (Kd.R_reads' hRb).2.2
    clear hI hB hK hRb HI3 HB3
    have HEN := Aside0.mk (rEnd_calls g s p3 er3 w1 w4 HI4.out)
    have HBAD := Aside0.mk (show (er3 ≠ 0 ∨ p3 < s.length ∨ (rest.length : Int) < many) → readT b = (noReel, true) by
      intro c
      unfold readT
      rw [HLS.out]
      have : headR s rest = none := by
        unfold headR
        simp only [HQ1.out, HQ2.out, HQ3.out]
        exact if_pos c
      simp only [this])
    have HGOOD := Aside0.mk (show ¬ (er3 ≠ 0 ∨ p3 < s.length ∨ (rest.length : Int) < many) → readT b = (⟨g1, bs, rest⟩, decide (n < b.length)) by
      intro c
      unfold readT
      rw [HLS.out]
      have : headR s rest = some ⟨g1, bs, rest⟩ := by
        unfold headR
        simp only [HQ1.out, HQ2.out, HQ3.out]
        exact if_neg c
      simp only [this])
    have HENDS := Aside0.mk (show (er3 ≠ 0 ∨ p3 < s.length) ↔ endP s p3 er3 ≠ 0 by
      rw [Ne, Ne, endP_zero]
      omega)
    have hw1 : wrap64 ((LN : Int) - 1) = (rest.length : Int) := by have := HLN.out; have := HRL.out; unfold wrap64; omega
    have hw2 : IntKind.i64.wrap ((LN : Int) - 1) = (rest.length : Int) := by have := HLN.out; have := HRL.out; clear hw1; exact (IntWalk.i64_in _ (by omega)).trans (by omega)
    by_cases ce : endP s p3 er3 = 0
    rotate_left
    · have HP := Aside0.mk (HBAD.out ((HENDS.out.2 ce).elim .inl (fun h => .inr (.inl h))))
      have d1 : (endP s p3 er3 != (0 : Int)) = true := by simpa using ce
      have d2 : (endP s p3 er3 == (0 : Int)) = false := by simpa using ce
      clear ce hw1 hw2
      generalize endP s p3 er3 = ee at *
      go_wp2_with (fail)
      refine HEN.out.mono ?_
      rintro e w5 ⟨rfl, ⟨n0, rfl⟩⟩
      go_wp2
      (try simp only [Exit.inBlock, Exit.then]); refine bodyPost_ret (results_tmp4 rfl _ _ _) rfl ?_
      rw [← HR.out, HP.out]
      exact ⟨_, rfl, Kd.R_nil _ _ _ _ _, pw_below_drewN (below_step HB1.out HB4.out) n0⟩
    have HENG := Aside0.mk (show Calls Try.prog 87 #[.pointer (some ⟨g, 0, none⟩)] w4 (fun e w' => e = .returned (.int .i64 0) ∧ Drawn0 w4 w') by have := HEN.out; rw [ce] at this; exact this)
    have HCE := Aside0.mk ce
    clear HEN ce
    by_cases cm : (rest.length : Int) < many
    · have HP := Aside0.mk (HBAD.out (.inr (.inr cm)))
      have d1 : decide ((rest.length : Int) < many) = true := decide_eq_true cm
      clear cm
      go_wp2_with (fail)
      refine HENG.out.mono ?_
      rintro e w5 ⟨rfl, ⟨n0, rfl⟩⟩
      go_wp2
      (try simp only [Exit.inBlock, Exit.then]); refine bodyPost_ret (results_tmp4 rfl _ _ _) rfl ?_
      rw [← HR.out, HP.out]
      exact ⟨_, rfl, Kd.R_nil _ _ _ _ _, pw_below_drewN (below_step HB1.out HB4.out) n0⟩
    have HP := Aside0.mk (HGOOD.out (fun c => by
      rcases c with c | c | c
      · exact (HENDS.out.1 (.inl c)) HCE.out
      · exact (HENDS.out.1 (.inr c)) HCE.out
      · exact cm c))
    have d1 : decide ((rest.length : Int) < many) = false := decide_eq_false cm
    clear cm
    obtain ⟨more, hm⟩ : ∃ m : Bool, decide (n < b.length) = m := ⟨_, rfl⟩
    have hm1 : decide ((n : Int) < (b.length : Int)) = more := by rw [← hm]; simp
    have HM := Aside0.mk hm
    obtain ⟨i0, hi0, _, hz1, _⟩ := info_parts Wk.info32
    have HCUT := cut_from (P := Try.prog) 46 32 .i64 Try.underlying46 hi0 1 hz1 (some ad) LN cv (1 : Int) (by decide) (by have := HLN.out; omega)
    rw [show (1 : Int).toNat = 1 from rfl, show LN - 1 = rest.length by have := HLN.out; omega] at HCUT
    have HVR := Aside0.mk (show Kd.V KdB 0 w1 0 (fun k => True) (.slice (if cv = 1 then some ad else (some ad).map (·.add (1 * 1))) rest.length (cv - 1)) rest by
      obtain ⟨hl0, hle, hF⟩ := Kd.V_at HRV.out
      have hF2 := Kd.F_cut (m := 1) (c := cv) (by rw [← hl0]; exact hl0 ▸ hF) (by simp) (by rw [← hl0]; exact hle)
      exact Kd.V_mk (by have := HLN.out; omega) hF2)
    generalize (if cv = 1 then some ad else (some ad).map (·.add (1 * 1))) = AR at HCUT HVR
    clear hi0 hz1 hm
    go_wp2_with (fail)
    refine HENG.out.mono ?_
    rintro e w5 ⟨rfl, ⟨n0, rfl⟩⟩
    have H0 := Aside0.mk (show RcS w1 [] (.slice none 0 0) (w4.drewN n0) from ⟨Kd.R_nil _ _ _ _ _, pw_below_drewN HB4.out n0⟩)
    go_wp2_with (fail)
    go_loopg [12, 51] rest.length (fun fu v12 v51 wr => ∃ j : Nat, j + fu = rest.length ∧ v51 = .int .i64 (j : Int) ∧ Aside0 (RcS w1 ((rest.take j).map strOfNums) v12 wr))
    case atStart => exact ⟨0, by omega, rfl, H0⟩
    case round =>
      obtain ⟨j, hjf, rfl, H⟩ := hrel
      clear H0
      have HJF := Aside0.mk hjf
      obtain ⟨O, hO⟩ : ∃ O, (rest.take j).map strOfNums = O := ⟨_, rfl⟩
      have HO := Aside0.mk hO
      rw [hO] at H
      clear hO
      by_cases hlt : j < rest.length
      · have e1 : decide ((j : Int) < (rest.length : Int)) = true := decide_eq_true (by omega)
        have e2 : decide (j < rest.length) = true := decide_eq_true hlt
        have hi0 : (0 : Int) ≤ (j : Int) := by omega
        have hi1 : (j : Int) < (rest.length : Int) := by omega
        have HLT := Aside0.mk hlt
        have HTK := Aside0.mk (show (rest.take (j + 1)).map strOfNums = O ++ [strOfNums (rest.getD j [])] by
          rw [← HO.out, List.take_add_one, List.getElem?_eq_getElem hlt, List.getD_eq_getElem?_getD, List.getElem?_eq_getElem hlt, List.map_append]; rfl)
        have HOL := Aside0.mk (show (O.length + 1) * 16 ≤ 140737488355328 by
          have h1 : O.length ≤ rest.length := by rw [← HO.out, List.length_map, List.length_take]; omega
          have := HRL.out
          omega)
        obtain ⟨ad3, A3, c3, e3, hc3, hC3, hx3⟩ := bb_get (Kd.C_below (Kd.V_reads' HVR.out).2.2 H.out.2) j hlt
        subst e3
        have hcv3 := Kd.C_string (P := Try.prog) (A := A3) (c := c3) Try.underlying32 Try.underlying5 Try.underlying9 hC3
        have hx4 : wr.cell? (ad3.add ((j : Int).toNat * 1)) = some (.slice A3 (rest.getD j []).length c3) := by rw [Int.toNat_natCast, Nat.mul_one]; exact hx3
        have HW := Aside0.mk (show wrap64 ((j : Int) + 1) = ((j + 1 : Nat) : Int) by
          have := HRL.out
          unfold wrap64; omega)
        clear hjf hlt hC3 hc3
        generalize rest.getD j [] = D at *
        go_wp2_with (first | ((with_reducible refine gate_builtin (b := .append) (xs := #[.tmp 55, .tmp 58]) rfl ?_); at_builtin; refine Kd.R_append Kd.string (w0 := w1) w1.heap.size rfl (.tmp 55) (.tmp 58) 81 9 (.string ⟨#[]⟩) 16 rfl Try.underlying81 info9' rfl (by decide) (by omega) _ O (strOfNums D) [.string (strOfNums D)] (fun _ => True) (fun _ => False) rfl rfl rfl (fun _ hk => hk.elim) (fun _ _ => trivial) H.out.1 H.out.2 H.out.2.size HOL.out ?_; intro v7 w7 h1 h2 h3 _; have HR7 := Aside0.mk h1; have HB7 := Aside0.mk h2; clear h1 h2 h3))
        rw [HW.out]
        go_roundg (gk - 1)
        case rel => exact ⟨j + 1, by have := HJF.out; have := HLT.out; omega, rfl, ⟨by rw [HTK.out]; exact ⟨HR7.out, HB7.out⟩⟩⟩
        case measure => have := HJF.out; have := HLT.out; omega
      · obtain rfl : j = rest.length := by omega
        have e1 : decide ((rest.length : Int) < (rest.length : Int)) = false := decide_eq_false (by omega)
        have HOE := Aside0.mk (show O = rest.map strOfNums by rw [← HO.out, List.take_length])
        clear hlt hjf
        go_wp2
        (try simp only [Exit.inBlock, Exit.then]); refine bodyPost_ret (results_tmp4 rfl _ _ _) rfl ?_
        rw [← HR.out, HP.out, HM.out, ← HOE.out]
        exact ⟨_, rfl, Kd.R_lower H.out.1 HB1.out.size, below_step HB1.out H.out.2⟩
end Go.Proofs.Ytehjbhnlbjbhfaa.Rt
-- RtC
namespace Go.Proofs.Ytehjbhnlbjbhfaa.Rt
open Go Go.RowKit Go.Proofs.YtehjbhnlbjbhfaaW.PrintWords Go.Proofs.YtehjbhnlbjbhfaaW.PrintLast Go.Proofs.YtehjbhnlbjbhfaaW.PrintMore Go.Proofs.Ytehjbhnlbjbhfaa.Wire Go.Proofs.Ytehjbhnlbjbhfaa.Wk Go.Proofs.Ytehjbhnlbjbhfaa.Dk Go.Proofs.Ytehjbhnlbjbhfaa.Tp Go.Proofs.Ytehjbhnlbjbhfaa.Rd
set_option linter.unusedVariables false
set_option linter.unusedSimpArgs false
theorem Wr.drewOf {g : Nat} {w w1 : World} (h : Wr g w.drew w1) : Wr g w w1 := (Wr.of_below (below_drew1 (Below.refl _ _))).trans h
set_option maxHeartbeats 8000000 in
set_option maxRecDepth 100000 in
theorem rTSync_calls (G : Nat → Prop) (t g : Nat) (x : TS) (s : DS) (w : World) (hT : IsY G w t g x) (hD : IsX G w g s) (hok : Okk s) (hrm : s.room ≠ 0) :
    Calls Try.prog 48 #[.pointer (some ⟨t, 0, none⟩)] w fun e w' => e = .returned (.int .i64 (syncT x s).2.2) ∧ IsY G w' t g (syncT x s).1 ∧ IsX G w' g (syncT x s).2.1 ∧ Ws (TG t g) w w' := by
  have HNE := Aside0.mk (hT.ne hD)
  have HOK := Aside0.mk hok
  have HRM := Aside0.mk hrm
  have HT := Aside0.mk hT
  have HDX := Aside0.mk (hD.below (below_drew1 (Below.refl _ _)))
  obtain ⟨s2, e2, hsy⟩ : ∃ s2 e2, syncP s (x.file : Int) = (s2, e2) := ⟨_, _, rfl⟩
  have HSY := Aside0.mk hsy
  obtain ⟨r, hr⟩ : ∃ r, syncT x s = r := ⟨_, rfl⟩
  rw [hr]
  have HR := Aside0.mk hr
  obtain ⟨hgt, lV, hb, hLr⟩ := hT
  obtain ⟨A, c, rfl, hcl, _⟩ := hLr.slice
  have hlen : (x.r.l.map strOfNums).length = x.r.l.length := by simp
  rw [hlen] at hb hLr
  have hq0 : w.cell? ⟨t, 0, none⟩ = some (.pointer (some ⟨g, 0, none⟩)) := (blk_cell hb 0).trans rfl
  have hq4 : w.cell? ⟨t, 4, none⟩ = some (.int .i64 (x.file : Int)) := (blk_cell hb 4).trans rfl
  have HBL := Aside0.mk hb
  have HLR := Aside0.mk hLr
  clear hr hsy hD hok hrm hb hLr hcl hlen
  go_enter Try.func48, Try.ntmps48
  go_wp2_with (fail)
  refine start_ (n := 10) (S := fun w' => w'.cell? ⟨t, 0, none⟩ = some (.pointer (some ⟨g, 0, none⟩)) ∧ w'.cell? ⟨t, 4, none⟩ = some (.int .i64 (x.file : Int))) (ds := []) #[false, false, false, false, false, false, false, false, false, false] (by kernel_rfl) rfl rfl ⟨hq0, hq4⟩ (fun hHeld => ?_)
  refine pure_ (i := 0) (N := some 4) (v := ?_) (a' := ?_) #[true, false, false, false, false, false, false, false, false, false] rfl rfl (by kernel_rfl) (fun _ _ _ h => h) (Or.inl ⟨by rfl, ?_⟩) ?_ ?_
  rotate_left
  · intro w'
    go_simp
    with_reducible rfl
  rotate_left
  · simp only [Act.put, List.setIfInBounds_toArray, List.set_cons_zero, List.set_cons_succ, i64_w, i32_w]
    rfl
  refine pure_ (i := 1) (N := some 5) (v := ?_) (a' := ?_) #[true, true, false, false, false, false, false, false, false, false] rfl rfl (by kernel_rfl) (fun _ _ _ h => h) (Or.inl ⟨by rfl, ?_⟩) ?_ ?_
  rotate_left
  · intro w'
    go_simp
    with_reducible rfl
  rotate_left
  · simp only [Act.put, List.setIfInBounds_toArray, List.set_cons_zero, List.set_cons_succ, i64_w, i32_w]
    rfl
  refine pure_ (i := 2) (N := some 6) (v := ?_) (a' := ?_) #[true, true, true, false, false, false, false, false, false, false] rfl rfl (by kernel_rfl) (fun _ _ _ h => h) (Or.inl ⟨by rfl, ?_⟩) ?_ ?_
  rotate_left
  · intro w'
    go_simp
    with_reducible rfl
  rotate_left
  · simp only [Act.put, List.setIfInBounds_toArray, List.set_cons_zero, List.set_cons_succ, i64_w, i32_w]
    rfl
  refine pure_ (i := 4) (N := some 8) (v := ?_) (a' := ?_) #[true, true, true, false, true, false, false, false, false, false] rfl rfl (by kernel_rfl) (fun _ _ _ h => h) (Or.inl ⟨by rfl, ?_⟩) ?_ ?_
  rotate_left
  · intro w'
    go_simp
    with_reducible rfl
  rotate_left
  · simp only [Act.put, List.setIfInBounds_toArray, List.set_cons_zero, List.set_cons_succ, i64_w, i32_w]
    rfl
  refine pure_ (i := 5) (N := some 9) (v := ?_) (a' := ?_) #[true, true, true, false, true, true, false, false, false, false] rfl rfl (by kernel_rfl) (fun _ _ _ h => h) (Or.inl ⟨by rfl, ?_⟩) ?_ ?_
  rotate_left
  · intro w'
    go_simp
    with_reducible rfl
  rotate_left
  · simp only [Act.put, List.setIfInBounds_toArray, List.set_cons_zero, List.set_cons_succ, i64_w, i32_w]
    rfl
  refine pure_ (i := 6) (N := some 10) (v := ?_) (a' := ?_) #[true, true, true, false, true, true, true, false, false, false] rfl rfl (by kernel_rfl) (fun _ _ _ h => h) (Or.inl ⟨by rfl, ?_⟩) ?_ ?_
  rotate_left
  · intro w'
    go_simp
    with_reducible rfl
  rotate_left
  · simp only [Act.put, List.setIfInBounds_toArray, List.set_cons_zero, List.set_cons_succ, i64_w, i32_w]
    rfl
  refine take_ (i := 3) (N := some 7) (v := ?_) (a' := ?_) #[true, true, true, true, true, true, true, false, false, false] rfl rfl (by kernel_rfl) (fun _ _ _ h => h) (Or.inl ⟨by rfl, ?_⟩) hHeld ?_ ?_
  rotate_left
  · rintro w' ⟨s0, s1⟩
    go_simp
    with_reducible rfl
  rotate_left
  · simp only [Act.put, List.setIfInBounds_toArray, List.set_cons_zero, List.set_cons_succ, i64_w, i32_w]
    rfl
  refine take_ (i := 7) (N := some 11) (v := ?_) (a' := ?_) #[true, true, true, true, true, true, true, true, false, false] rfl rfl (by kernel_rfl) (fun _ _ _ h => h) (Or.inl ⟨by rfl, ?_⟩) hHeld ?_ ?_
  rotate_left
  · rintro w' ⟨s0, s1⟩
    go_simp
    with_reducible rfl
  rotate_left
  · simp only [Act.put, List.setIfInBounds_toArray, List.set_cons_zero, List.set_cons_succ, i64_w, i32_w]
    rfl
  refine one_ (i := 8) (N := some 12) #[true, true, true, true, true, true, true, true, true, false] rfl rfl (by kernel_rfl) (by decide) (fun K hK => ?_)
  refine goes_ Try.func57 (by kernel_rfl) rfl #[.pointer (some ⟨g, 0, none⟩), .int .i64 (x.file : Int)] (by rfl) rfl rfl (by first | rfl | (simp; done) | (simp only [List.map_toArray, List.map_cons, List.map_nil]; rfl)) ?_
  with_reducible refine (RSync_calls G g s (x.file : Int) _ HDX.out HOK.out HRM.out).mono ?_
  rw [HSY.out]
  rintro e w3 ⟨rfl, hI, hW⟩
  refine ⟨_, rfl, ?_⟩
  refine hK.out _ _ ⟨hW.cell hHeld.1 HNE.out, hW.cell hHeld.2 HNE.out⟩ (fun hHeld => ?_)
  clear hK K
  refine norm_ (a' := ?_) ?_ ?_
  rotate_left
  · show Act.put _ (some 12) _ = _
    simp only [Act.put, List.setIfInBounds_toArray, List.set_cons_zero, List.set_cons_succ, i64_w, i32_w]
    rfl
  refine pure_ (i := 9) (N := some 3) (v := ?_) (a' := ?_) #[true, true, true, true, true, true, true, true, true, true] rfl rfl (by kernel_rfl) (fun _ _ _ h => h) (Or.inl ⟨by rfl, ?_⟩) ?_ ?_
  rotate_left
  · intro w'
    go_simp
    with_reducible rfl
  rotate_left
  · simp only [Act.put, List.setIfInBounds_toArray, List.set_cons_zero, List.set_cons_succ, i64_w, i32_w]
    rfl
  refine done_ (by kernel_rfl) ?_
  have hwr : Wr g w w3 := Wr.drewOf hW
  have HW3 := Aside0.mk hwr
  have HI := Aside0.mk hI
  have hb3 := (hwr.block t (blk_lt HBL.out) HNE.out).trans HBL.out
  have HB3 := Aside0.mk hb3
  have hc3 : w3.cell? ⟨t, 3, none⟩ = some (.slice A x.r.l.length c) := (blk_cell hb3 3).trans rfl
  have hc5 : w3.cell? ⟨t, 5, none⟩ = some (.int .i64 (x.kept : Int)) := (blk_cell hb3 5).trans rfl
  have hf5 := blk_frozen hb3 5
  clear hI hW hwr hb3 hq0 hq4 hHeld
  by_cases ce : e2 = 0
  · subst ce
    go_wp2
    go_ret
    rw [← HR.out]
    unfold syncT
    rw [HSY.out]
    rw [if_neg (fun h => h rfl)]
    have hws : Ws (TG t g) w w3 := Ws.of_wr HW3.out (.inr rfl)
    have hs := Ws.of_set w3 (P := TG t g) (.inl rfl) 5 (.int .i64 (x.r.l.length : Int))
    refine ⟨rfl, ?_, ?_, hws.trans hs⟩
    · exact IsY.put (x := x) (y := ⟨x.r, x.file, x.r.l.length⟩) (lV' := .slice A x.r.l.length c) HB3.out hgt 5 _ rfl rfl (HLR.out.ws (Ws.of_wr HW3.out (P := fun b => b = g) rfl) (fun b e => e ▸ HI.out.gg))
    · exact IsX.other HI.out (Wr.set (Wr.refl t w3) 5 _) hgt (Ne.symm HNE.out)
  · have d1 : (e2 != (0 : Int)) = true := by simpa using ce
    have d2 : (e2 == (0 : Int)) = false := by simpa using ce
    have HCE := Aside0.mk ce
    clear ce
    go_wp2
    go_ret
    rw [← HR.out]
    unfold syncT
    rw [HSY.out]
    rw [if_pos HCE.out]
    exact ⟨rfl, HT.out.ws (Ws.of_wr HW3.out (P := fun b => b = g) rfl) (fun b e => e ▸ HI.out.gg) (fun e => HNE.out e), HI.out, Ws.of_wr HW3.out (.inr rfl)⟩
set_option maxHeartbeats 8000000 in
set_option maxRecDepth 100000 in
theorem rTPut_calls (G : Nat → Prop) (t g : Nat) (x : TS) (s : DS) (d : List Int) (w : World) (hT : IsY G w t g x) (hD : IsX G w g s) (hok : Okk s) (hrm : s.room ≠ 0) (hbs : Bs d) (hdl : d.length < 900000000) (hn : x.r.l.length < 1000000000) :
    Calls Try.prog 52 #[.pointer (some ⟨t, 0, none⟩), .string (strOfNums d)] w fun e w' => e = .returned (.int .i64 (putP x s d).2.2) ∧ IsY G w' t g (putP x s d).1 ∧ IsX G w' g (putP x s d).2.1 ∧ Ws (TG t g) w w' := by
  have HNE := Aside0.mk (hT.ne hD)
  have HOK := Aside0.mk hok
  have HRM := Aside0.mk hrm
  have HT := Aside0.mk hT
  have HD := Aside0.mk hD
  have HBD := Aside0.mk hbs
  have HDL := Aside0.mk hdl
  have HN := Aside0.mk hn
  obtain ⟨r, hr⟩ : ∃ r, putP x s d = r := ⟨_, rfl⟩
  rw [hr]
  have HR := Aside0.mk hr
  have HCV := Aside0.mk (fun (w : World) => run_bytes_of_string (P := Try.prog) w 9 32 5 (strOfNums d) Try.underlying9 Try.underlying32 Try.underlying5)
  rw [strOfNums_size d] at HCV
  have HC0 := Aside0.mk (conv_row w d hbs (by omega) (grownCap w d.length 0 5) ((bytesRow (strOfNums d) (grownCap w d.length 0 5)).size, (bytesRow (strOfNums d) (grownCap w d.length 0 5)).size + 1))
  obtain ⟨st, hst⟩ : ∃ st, strOfNums d = st := ⟨_, rfl⟩
  have HST := Aside0.mk hst
  rw [hst] at HCV HC0 ⊢
  have hcv := HCV.out
  have HGC := Aside0.mk (show d.length ≤ grownCap w d.length 0 5 from grownCap_ge _ _ _ _)
  clear hst hr hT hD hok hrm hbs hdl hn
  go_enter Try.func52, Try.ntmps52
  go_wp2_with (fail)
  refine (rSealE_calls _ _ d _ HC0.out.1 HGC.out HBD.out).mono ?_
  by_cases c0 : 8192 < d.length
  · have HSE := Aside0.mk (show sealE d = ([], 4) by unfold sealE; rw [if_pos c0])
    have HP := Aside0.mk (show putP x s d = (x, s, 4) by unfold putP; rw [if_pos c0])
    rw [HSE.out]
    rintro e w1 ⟨v, rfl, hR, hb⟩
    have HB := Aside0.mk (below_step HC0.out.2 hb)
    clear hR hb c0
    go_wp2
    go_ret
    rw [← HR.out, HP.out]
    exact ⟨rfl, HT.out.below HB.out, HD.out.below HB.out, Ws.of_below HB.out⟩
  have HSE := Aside0.mk (show sealE d = (sealP d, 0) by unfold sealE; rw [if_neg c0])
  rw [HSE.out]
  rintro e w1 ⟨v, rfl, hR, hb⟩
  obtain ⟨B, cb, rfl⟩ := Kd.R_slice hR
  have HB := Aside0.mk (below_step HC0.out.2 hb)
  have HRB := Aside0.mk (show Rw (fun b => b = g) .u8 w1.drew (.slice B (sealP d).length cb) (sealP d) from Rw.below (Rw.of_R hR (fun b e => by subst e; exact Nat.lt_of_lt_of_le (HD.out.lt _ HD.out.gg) HC0.out.2.size)) (below_drew1 (Below.refl _ _)))
  have HLB := Aside0.mk (show (sealP d).length < 1000000000 by rw [seal_len]; have := enc_len 9 d.length; omega)
  have HT1 := Aside0.mk (HT.out.below HB.out)
  have HDX := Aside0.mk ((HD.out.below HB.out).below (below_drew1 (Below.refl _ _)))
  obtain ⟨s2, e2, hap⟩ : ∃ s2 e2, appendP s (x.file : Int) (sealP d) = (s2, e2) := ⟨_, _, rfl⟩
  have HAP := Aside0.mk hap
  have HP := Aside0.mk (show putP x s d = if e2 ≠ 0 then (x, s2, e2) else (⟨⟨x.r.gen, x.r.base, x.r.l ++ [d]⟩, x.file, x.kept⟩, s2, 0) by unfold putP; rw [if_neg c0, hap])
  obtain ⟨hgt, lV, hb1, hLr⟩ := HT1.out
  have HMP := Aside0.mk (show (x.r.l ++ [d]).map strOfNums = x.r.l.map strOfNums ++ [st] by rw [List.map_append, ← HST.out]; rfl)
  obtain ⟨L, hL⟩ : ∃ L, x.r.l.map strOfNums = L := ⟨_, rfl⟩
  have HLN := Aside0.mk (show L.length < 1000000000 by rw [← hL, List.length_map]; exact HN.out)
  rw [hL] at hLr HMP
  obtain ⟨A, c, rfl, hcl, _⟩ := hLr.slice
  have hq0 : w1.cell? ⟨t, 0, none⟩ = some (.pointer (some ⟨g, 0, none⟩)) := (blk_cell hb1 0).trans rfl
  have hq4 : w1.cell? ⟨t, 4, none⟩ = some (.int .i64 (x.file : Int)) := (blk_cell hb1 4).trans rfl
  have HBL := Aside0.mk hb1
  have HLR := Aside0.mk hLr
  clear hR hb c0 hap hb1 hLr hcl
  · go_wp2_with (fail)
    refine start_ (n := 11) (S := fun w' => w'.cell? ⟨t, 0, none⟩ = some (.pointer (some ⟨g, 0, none⟩)) ∧ w'.cell? ⟨t, 4, none⟩ = some (.int .i64 (x.file : Int))) (ds := []) #[false, false, false, false, false, false, false, false, false, false, false] (by kernel_rfl) rfl rfl ⟨hq0, hq4⟩ (fun hHeld => ?_)
    refine pure_ (i := 0) (N := some 16) (v := ?_) (a' := ?_) #[true, false, false, false, false, false, false, false, false, false, false] rfl rfl (by kernel_rfl) (fun _ _ _ h => h) (Or.inl ⟨by rfl, ?_⟩) ?_ ?_
    rotate_left
    · intro w'
      go_simp
      with_reducible rfl
    rotate_left
    · simp only [Act.put, List.setIfInBounds_toArray, List.set_cons_zero, List.set_cons_succ, i64_w, i32_w]
      rfl
    refine pure_ (i := 1) (N := some 17) (v := ?_) (a' := ?_) #[true, true, false, false, false, false, false, false, false, false, false] rfl rfl (by kernel_rfl) (fun _ _ _ h => h) (Or.inl ⟨by rfl, ?_⟩) ?_ ?_
    rotate_left
    · intro w'
      go_simp
      with_reducible rfl
    rotate_left
    · simp only [Act.put, List.setIfInBounds_toArray, List.set_cons_zero, List.set_cons_succ, i64_w, i32_w]
      rfl
    refine pure_ (i := 2) (N := some 18) (v := ?_) (a' := ?_) #[true, true, true, false, false, false, false, false, false, false, false] rfl rfl (by kernel_rfl) (fun _ _ _ h => h) (Or.inl ⟨by rfl, ?_⟩) ?_ ?_
    rotate_left
    · intro w'
      go_simp
      with_reducible rfl
    rotate_left
    · simp only [Act.put, List.setIfInBounds_toArray, List.set_cons_zero, List.set_cons_succ, i64_w, i32_w]
      rfl
    refine pure_ (i := 4) (N := some 20) (v := ?_) (a' := ?_) #[true, true, true, false, true, false, false, false, false, false, false] rfl rfl (by kernel_rfl) (fun _ _ _ h => h) (Or.inl ⟨by rfl, ?_⟩) ?_ ?_
    rotate_left
    · intro w'
      go_simp
      with_reducible rfl
    rotate_left
    · simp only [Act.put, List.setIfInBounds_toArray, List.set_cons_zero, List.set_cons_succ, i64_w, i32_w]
      rfl
    refine pure_ (i := 5) (N := some 21) (v := ?_) (a' := ?_) #[true, true, true, false, true, true, false, false, false, false, false] rfl rfl (by kernel_rfl) (fun _ _ _ h => h) (Or.inl ⟨by rfl, ?_⟩) ?_ ?_
    rotate_left
    · intro w'
      go_simp
      with_reducible rfl
    rotate_left
    · simp only [Act.put, List.setIfInBounds_toArray, List.set_cons_zero, List.set_cons_succ, i64_w, i32_w]
      rfl
    refine pure_ (i := 6) (N := some 22) (v := ?_) (a' := ?_) #[true, true, true, false, true, true, true, false, false, false, false] rfl rfl (by kernel_rfl) (fun _ _ _ h => h) (Or.inl ⟨by rfl, ?_⟩) ?_ ?_
    rotate_left
    · intro w'
      go_simp
      with_reducible rfl
    rotate_left
    · simp only [Act.put, List.setIfInBounds_toArray, List.set_cons_zero, List.set_cons_succ, i64_w, i32_w]
      rfl
    refine pure_ (i := 8) (N := some 24) (v := ?_) (a' := ?_) #[true, true, true, false, true, true, true, false, true, false, false] rfl rfl (by kernel_rfl) (fun _ _ _ h => h) (Or.inl ⟨by rfl, ?_⟩) ?_ ?_
    rotate_left
    · intro w'
      go_simp
      with_reducible rfl
    rotate_left
    · simp only [Act.put, List.setIfInBounds_toArray, List.set_cons_zero, List.set_cons_succ, i64_w, i32_w]
      rfl
    refine take_ (i := 3) (N := some 19) (v := ?_) (a' := ?_) #[true, true, true, true, true, true, true, false, true, false, false] rfl rfl (by kernel_rfl) (fun _ _ _ h => h) (Or.inl ⟨by rfl, ?_⟩) hHeld ?_ ?_
    rotate_left
    · rintro w' ⟨s0, s1⟩
      go_simp
      with_reducible rfl
    rotate_left
    · simp only [Act.put, List.setIfInBounds_toArray, List.set_cons_zero, List.set_cons_succ, i64_w, i32_w]
      rfl
    refine take_ (i := 7) (N := some 23) (v := ?_) (a' := ?_) #[true, true, true, true, true, true, true, true, true, false, false] rfl rfl (by kernel_rfl) (fun _ _ _ h => h) (Or.inl ⟨by rfl, ?_⟩) hHeld ?_ ?_
    rotate_left
    · rintro w' ⟨s0, s1⟩
      go_simp
      with_reducible rfl
    rotate_left
    · simp only [Act.put, List.setIfInBounds_toArray, List.set_cons_zero, List.set_cons_succ, i64_w, i32_w]
      rfl
    refine one_ (i := 9) (N := some 25) #[true, true, true, true, true, true, true, true, true, true, false] rfl rfl (by kernel_rfl) (by decide) (fun K hK => ?_)
    refine goes_ Try.func33 (by kernel_rfl) rfl #[.pointer (some ⟨g, 0, none⟩), .int .i64 (x.file : Int), .slice B (sealP d).length cb] (by rfl) rfl rfl (by first | rfl | (simp; done) | (simp only [List.map_toArray, List.map_cons, List.map_nil]; rfl)) ?_
    with_reducible refine (RAppend_calls G g s (x.file : Int) _ (sealP d) _ HDX.out HOK.out HRM.out HRB.out HLB.out).mono ?_
    rw [HAP.out]
    rintro e w3 ⟨rfl, hI, hW⟩
    refine ⟨_, rfl, ?_⟩
    refine hK.out _ _ ⟨hW.cell hHeld.1 HNE.out, hW.cell hHeld.2 HNE.out⟩ (fun hHeld => ?_)
    clear hK K
    refine norm_ (a' := ?_) ?_ ?_
    rotate_left
    · show Act.put _ (some 25) _ = _
      simp only [Act.put, List.setIfInBounds_toArray, List.set_cons_zero, List.set_cons_succ, i64_w, i32_w]
      rfl
    refine pure_ (i := 10) (N := some 6) (v := ?_) (a' := ?_) #[true, true, true, true, true, true, true, true, true, true, true] rfl rfl (by kernel_rfl) (fun _ _ _ h => h) (Or.inl ⟨by rfl, ?_⟩) ?_ ?_
    rotate_left
    · intro w'
      go_simp
      with_reducible rfl
    rotate_left
    · simp only [Act.put, List.setIfInBounds_toArray, List.set_cons_zero, List.set_cons_succ, i64_w, i32_w]
      rfl
    refine done_ (by kernel_rfl) ?_
    have hwr : Wr g w1 w3 := Wr.drewOf hW
    have HW3 := Aside0.mk hwr
    have HI := Aside0.mk hI
    have hb3 := (hwr.block t (blk_lt HBL.out) HNE.out).trans HBL.out
    have HB3 := Aside0.mk hb3
    have hc3 : w3.cell? ⟨t, 3, none⟩ = some (.slice A L.length c) := (blk_cell hb3 3).trans rfl
    have hf3 := blk_frozen hb3 3
    have HL3 := Aside0.mk (HLR.out.ws (Ws.of_wr HW3.out (P := fun b => b = g) rfl) (fun b e => e ▸ HI.out.gg))
    have HC3 := Aside0.mk (Kd.V_reads' HL3.out).2.2
    have HX3 := Aside0.mk (blk_lt hb3)
    clear hI hW hwr hb3 hq0 hq4 hHeld
    by_cases ce : e2 = 0
    rotate_left
    · have d1 : (e2 != (0 : Int)) = true := by simpa using ce
      have d2 : (e2 == (0 : Int)) = false := by simpa using ce
      have HCE := Aside0.mk ce
      clear ce
      go_wp2_with (fail)
      go_ret
      rw [← HR.out, HP.out, if_pos HCE.out]
      exact ⟨rfl, HT1.out.ws (Ws.of_wr HW3.out (P := fun b => b = g) rfl) (fun b e => e ▸ HI.out.gg) (fun e => HNE.out e), HI.out, (Ws.of_below HB.out).trans (Ws.of_wr HW3.out (.inr rfl))⟩
    subst ce
    go_wp2_with (first | ((with_reducible refine gate_dst (N := 29) rfl ?_); refine Kd.R_lit Kd.string _ 9 ?hg (N := 29) ?hd (xs := ([] : List ByteArray)) (inner := []) (ok := fun _ => True) (okp := fun _ => True) ?hr ?hp (fun _ hk => hk) trivial (Below.refl _ _) (Nat.le_refl _) (by simp) ?_; (case hd => rfl); (case hg => rfl); (case hr => first | (go_simp; done) | (go_simp; rfl)); (case hp => exact (Reps.none _ _)); intro va w4 ho5 hb hg_ hnew_; have HO5 := Aside0.mk ho5; have HB5 := Aside0.mk hb; have hc3' := (HB5.out.cell (p := ⟨t, 3, none⟩) HX3.out).trans hc3; clear hg_ hnew_ ho5 hb) | ((with_reducible refine gate_builtin (b := .append) (xs := #[.tmp 29, .tmp 33]) rfl ?_); at_builtin; refine Kd.R_append_rows Kd.string (w0 := w3) w3.heap.size rfl (.tmp 29) (.tmp 33) 81 9 (.string ⟨#[]⟩) 16 rfl Try.underlying81 info9' rfl (by decide) (by omega) va [] L _ _ _ (fun _ => True) (fun _ => False) rfl rfl ?aO ?aR (fun _ _ h => h) (fun _ h => h.elim) ?aF ?aB ?aS ?aL ?_; (case aR => exact Kd.C_below HC3.out HB5.out); (case aB => exact HB5.out); (case aF => exact (fun _ _ => trivial)); (case aO => exact HO5.out); (case aS => exact HB5.out.size); (case aL => simp only [List.length_nil]; have := HLN.out; omega); intro vb w6 ho hb hg hat; rw [List.nil_append] at ho; have HO6 := Aside0.mk ho; have HB6 := Aside0.mk hb; clear ho hb hg hat) | ((with_reducible refine gate_builtin (b := .append) (xs := #[.tmp 34, .tmp 36]) rfl ?_); at_builtin; refine Kd.R_append Kd.string (w0 := w3) w3.heap.size rfl (.tmp 34) (.tmp 36) 81 9 (.string ⟨#[]⟩) 16 rfl Try.underlying81 info9' rfl (by decide) (by omega) _ L st [.string st] (fun _ => True) (fun _ => False) rfl rfl rfl (fun _ hk => hk.elim) (fun _ _ => trivial) HO6.out HB6.out HB6.out.size (by have := HLN.out; omega) ?_; intro vc w7 h1 h2 h3 _; have HO7 := Aside0.mk h1; have HB7 := Aside0.mk h2; obtain ⟨A7, c7, e7⟩ := Kd.R_slice h1; subst e7; have hc3b := (h2.cell (p := ⟨t, 3, none⟩) HX3.out).trans hc3; have hf3b := (h2.frozen (p := ⟨t, 3, none⟩) HX3.out).trans hf3; clear h1 h2 h3))
    go_ret
    rw [← HR.out, HP.out, if_neg (fun h => h rfl)]
    have hws : Ws (TG t g) w w7 := ((Ws.of_below HB.out).trans (Ws.of_wr HW3.out (.inr rfl))).trans (Ws.of_below HB7.out)
    have hs := Ws.of_set w7 (P := TG t g) (.inl rfl) 3 (.slice A7 (L.length + 1) c7)
    have hb7 := blk_below HB3.out HB7.out
    have hst7 : St G w7 (.slice A7 (L.length + 1) c7) ((x.r.l ++ [d]).map strOfNums) := by rw [HMP.out, show L.length + 1 = (L ++ [st]).length by simp]; exact St.of_R HO7.out HI.out.lt
    refine ⟨rfl, ?_, ?_, hws.trans hs⟩
    · exact IsY.put (x := x) (y := ⟨⟨x.r.gen, x.r.base, x.r.l ++ [d]⟩, x.file, x.kept⟩) (lV' := .slice A7 (L.length + 1) c7) hb7 hgt 3 _ rfl rfl hst7
    · exact IsX.other (HI.out.below HB7.out) (Wr.set (Wr.refl t w7) 3 _) hgt (Ne.symm HNE.out)
end Go.Proofs.Ytehjbhnlbjbhfaa.Rt
-- RtD
namespace Go.Proofs.Ytehjbhnlbjbhfaa.Rt
open Go Go.RowKit Go.Proofs.YtehjbhnlbjbhfaaW.PrintWords Go.Proofs.YtehjbhnlbjbhfaaW.PrintLast Go.Proofs.YtehjbhnlbjbhfaaW.PrintMore Go.Proofs.Ytehjbhnlbjbhfaa.Wire Go.Proofs.Ytehjbhnlbjbhfaa.Wk Go.Proofs.Ytehjbhnlbjbhfaa.Dk Go.Proofs.Ytehjbhnlbjbhfaa.Tp Go.Proofs.Ytehjbhnlbjbhfaa.Rd
set_option linter.unusedVariables false
set_option linter.unusedSimpArgs false
theorem clear_room (s : DS) (i : Int) : (clearP s i).1.room = s.room := by
  unfold clearP
  split
  · rfl
  · exact act_room _ _ _ (fun s n => doneC_room _ s n)
theorem sync_room (s : DS) (i : Int) : (syncP s i).1.room = s.room := by
  unfold syncP
  split
  · rfl
  · exact act_room _ _ _ (fun s n => doneY_room _ s n)
theorem ss_get {w : World} {A : Option Addr} {n : Nat} {ls : List ByteArray} (h : Kd.C Kd.string w A n ls) (i : Nat) (hi : i < n) : ∃ ad, A = some ad ∧ w.cell? (ad.add i) = some (.string (ls.getD i ⟨#[]⟩)) := by
  obtain ⟨ad, cs, hA, hl, hk, hcell⟩ := Kd.C_get h ⟨#[]⟩ (i : Int) (by omega) (by omega)
  rw [Int.toNat_natCast] at hk hcell
  obtain rfl : cs = [.string (ls.getD i ⟨#[]⟩)] := hk
  refine ⟨ad, hA, ?_⟩
  have := hcell 0 _ rfl
  rw [show i * Kd.string.sz + 0 = i from by show i * 1 + 0 = i; omega] at this
  exact this
theorem map_getD (ls : List (List Int)) (j : Nat) : (ls.map strOfNums).getD j ⟨#[]⟩ = strOfNums (ls.getD j []) := by
  rw [List.getD_eq_getElem?_getD, List.getD_eq_getElem?_getD, List.getElem?_map]
  cases ls[j]? <;> rfl
set_option maxHeartbeats 8000000 in
set_option maxRecDepth 100000 in
theorem rSave_calls (G : Nat → Prop) (t g : Nat) (x : TS) (s : DS) (lV : Value) (base : List Int) (ls : List (List Int)) (w : World) (hT : IsY G w t g x) (hD : IsX G w g s) (hok : Okk s) (hrm : s.room ≠ 0) (hl : St G w lV (ls.map strOfNums)) (hs : SaveOk x base ls) (hbl : base.length < 1000000) (hgf : x.r.gen ≤ 1099511627776) :
    Calls Try.prog 49 #[.pointer (some ⟨t, 0, none⟩), .string (strOfNums base), lV] w fun e w' => e = .returned (.int .i64 (saveP x s base ls).2.2) ∧ IsY G w' t g (saveP x s base ls).1 ∧ IsX G w' g (saveP x s base ls).2.1 ∧ Ws (TG t g) w w' := by
  have HNE := Aside0.mk (hT.ne hD)
  have HOK := Aside0.mk hok
  have HRM := Aside0.mk hrm
  have HT := Aside0.mk hT
  have HD := Aside0.mk hD
  have HSO := Aside0.mk hs
  have hml : (ls.map strOfNums).length = ls.length := by simp
  obtain ⟨Al, cl, rfl, hcl, hCl⟩ := hl.slice
  rw [hml] at hl hcl hCl ⊢
  have HLV := Aside0.mk hl
  have HCL := Aside0.mk (And.intro hcl hCl)
  obtain ⟨hgt, tl, hblk, htl⟩ := hT
  have HBLK := Aside0.mk hblk
  have hq1 : w.cell? ⟨t, 1, none⟩ = some (.int .i64 x.r.gen) := (blk_cell hblk 1).trans rfl
  have hgen := hs.gen
  have HW1 := Aside0.mk (show wrap64 (x.r.gen + 1) = x.r.gen + 1 by unfold wrap64; omega)
  obtain ⟨r, hr⟩ : ∃ r, saveP x s base ls = r := ⟨_, rfl⟩
  rw [hr]
  have HR := Aside0.mk hr
  have hsz := strOfNums_size base
  have HHC := Aside0.mk (fun (w' : World) => rHead_calls (x.r.gen + 1) (ls.length : Int) base w' hs.bb (by omega) (by have := hs.many; omega) hbl)
  obtain ⟨st, hst⟩ : ∃ st, strOfNums base = st := ⟨_, rfl⟩
  have HST := Aside0.mk hst
  rw [hst] at hsz HHC ⊢
  clear hr hD hok hrm hl hs hcl hCl hblk htl hgen hml hst
  by_cases c1 : x.r.gen = 1099511627776
  · have HP := Aside0.mk (show saveP x s base ls = (x, s, 5) from if_pos (by omega))
    have d1 : (x.r.gen == (1099511627776 : Int)) = true := by simpa using c1
    have d2 : decide (x.r.gen = (1099511627776 : Int)) = true := decide_eq_true c1
    clear c1
    go_enter Try.func49, Try.ntmps49
    go_wp2_with (fail)
    go_ret
    rw [← HR.out, HP.out]
    exact ⟨rfl, HT.out, HD.out, Ws.refl _ _⟩
  have d1 : (x.r.gen == (1099511627776 : Int)) = false := by simpa using c1
  have d2 : decide (x.r.gen = (1099511627776 : Int)) = false := decide_eq_false c1
  have HC1 := Aside0.mk (show ¬ 1099511627776 ≤ x.r.gen by omega)
  by_cases c2 : 8176 < base.length
  · have HP := Aside0.mk (show saveP x s base ls = (x, s, 4) by unfold saveP; rw [if_neg HC1.out, if_pos c2])
    have d3 : decide ((st.size : Int) > 8176) = true := decide_eq_true (by omega)
    have d4 : decide ((8176 : Int) < (st.size : Int)) = true := decide_eq_true (by omega)
    have d4a : decide ((base.length : Int) > 8176) = true := decide_eq_true (by omega)
    have d4b : decide ((8176 : Int) < (base.length : Int)) = true := decide_eq_true (by omega)
    clear c1 c2
    go_enter Try.func49, Try.ntmps49
    go_wp2_with (fail)
    go_ret
    rw [← HR.out, HP.out]
    exact ⟨rfl, HT.out, HD.out, Ws.refl _ _⟩
  have d3 : decide ((st.size : Int) > 8176) = false := decide_eq_false (by omega)
  have d4 : decide ((8176 : Int) < (st.size : Int)) = false := decide_eq_false (by omega)
  have d4a : decide ((base.length : Int) > 8176) = false := decide_eq_false (by omega)
  have d4b : decide ((8176 : Int) < (base.length : Int)) = false := decide_eq_false (by omega)
  have HC2 := Aside0.mk c2
  clear c1 c2
  obtain ⟨hd, he, hhd⟩ : ∃ hd he, headE (x.r.gen + 1) (ls.length : Int) base = (hd, he) := ⟨_, _, rfl⟩
  have HHD := Aside0.mk hhd
  rw [hhd] at HHC
  clear hhd
  by_cases c3 : he = 0
  rotate_left
  · have HP := Aside0.mk (show saveP x s base ls = (x, s, he) by unfold saveP; rw [if_neg HC1.out, if_neg HC2.out, HHD.out, if_pos c3])
    have d5 : (he != (0 : Int)) = true := by simpa using c3
    have d6 : (he == (0 : Int)) = false := by simpa using c3
    clear c3
    go_enter Try.func49, Try.ntmps49
    go_wp2_with (fail)
    rw [HW1.out]
    refine (HHC.out _).mono ?_
    rintro e w1 ⟨v, rfl, hR, hB⟩
    have HB := Aside0.mk hB
    clear hR hB
    go_wp2_with (fail)
    go_ret
    rw [← HR.out, HP.out]
    exact ⟨rfl, HT.out.below HB.out, HD.out.below HB.out, Ws.of_below HB.out⟩
  subst c3
  have HHL := Aside0.mk (show hd.length < 9000 by have := head_len (gen := x.r.gen + 1) (many := ls.length) (base := base) (by have := HC2.out; omega) (by rw [HHD.out]); rw [HHD.out] at this; exact this)
  have HTOO := Aside0.mk (show tooLong ls = true → saveP x s base ls = (x, s, 4) by
    intro c
    unfold saveP; rw [if_neg HC1.out, if_neg HC2.out, HHD.out, if_neg (fun h => h rfl), if_pos c])
  have HFIN := Aside0.mk (show tooLong ls = false → saveP x s base ls = saveW x s base ls (hd ++ ls.flatMap sealP) by
    intro c
    unfold saveP; rw [if_neg HC1.out, if_neg HC2.out, HHD.out, if_neg (fun h => h rfl), c, if_neg (by decide)])
  go_enter Try.func49, Try.ntmps49
  go_wp2_with (fail)
  rw [HW1.out]
  refine (HHC.out _).mono ?_
  rintro e w1 ⟨v, rfl, hR, hB⟩
  obtain ⟨Ah, ch, rfl⟩ := Kd.R_slice hR
  have H0 := Aside0.mk (show SV w hd ls 0 (.slice Ah hd.length ch) w1 from ⟨by simpa using hR, hB⟩)
  have P0 := Aside0.mk (show tooLong (ls.take 0) = false from rfl)
  clear hR hB hq1
  go_wp2_with (fail)
  go_loopg [7, 42] (ls.length) (fun f v7 v42 wr => ∃ (j : Nat) (A : Option Addr) (c : Nat), j + f = ls.length ∧ v7 = .slice A (hd ++ (ls.take j).flatMap sealP).length c ∧ v42 = .int .i64 (j : Int) ∧ Aside0 (SV w hd ls j (.slice A (hd ++ (ls.take j).flatMap sealP).length c) wr) ∧ Aside0 (tooLong (ls.take j) = false))
  case atStart => exact ⟨0, Ah, ch, by omega, by simp, rfl, by simpa using H0, P0⟩
  case round =>
    obtain ⟨j, A, c, hjf, rfl, rfl, H, P⟩ := hrel
    clear H0 P0
    obtain ⟨X, hX⟩ : ∃ X, hd ++ (ls.take j).flatMap sealP = X := ⟨_, rfl⟩
    have HX := Aside0.mk hX
    rw [hX] at H ⊢
    have HSV := Aside0.mk (show Kd.R (Kd.int .u8) 5 wr w.heap.size (fun _ => True) (.slice A X.length c) X ∧ Below w.heap.size w wr by rw [← HX.out] at H ⊢; exact H.out)
    have HJF := Aside0.mk hjf
    clear H hX
    by_cases hlt : j < ls.length
    · have e1 : decide ((j : Int) < (ls.length : Int)) = true := decide_eq_true (by omega)
      obtain ⟨ad, e0, hx⟩ := ss_get (Kd.C_below HCL.out.2 HSV.out.2) j hlt
      subst e0
      rw [map_getD] at hx
      have HDL := Aside0.mk (HSO.out.len hlt)
      have HDB := Aside0.mk (HSO.out.bs hlt)
      have HT2 := Aside0.mk (fun h => tooLong_take P.out hlt h)
      have HTA := Aside0.mk (fun h => tooLong_at (ls := ls) hlt h)
      have HFT := Aside0.mk (flat_take hlt)
      have HFL := Aside0.mk (flat_le ls (j + 1))
      have hi1 : (j : Int) < (ls.length : Int) := by omega
      have hi0 : (0 : Int) ≤ (j : Int) := by omega
      generalize ls.getD j [] = D at *
      have hx2 : wr.cell? (ad.add ((j : Int).toNat * 1)) = some (.string (strOfNums D)) := by rw [Int.toNat_natCast, Nat.mul_one]; exact hx
      have HCV := Aside0.mk (fun (w : World) => run_bytes_of_string (P := Try.prog) w 9 32 5 (strOfNums D) Try.underlying9 Try.underlying32 Try.underlying5)
      rw [strOfNums_size D] at HCV
      have HC0 := Aside0.mk (conv_row wr D HDB.out (by have := HDL.out; omega) (grownCap wr D.length 0 5) ((bytesRow (strOfNums D) (grownCap wr D.length 0 5)).size, (bytesRow (strOfNums D) (grownCap wr D.length 0 5)).size + 1))
      obtain ⟨sd, hsd⟩ : ∃ sd, strOfNums D = sd := ⟨_, rfl⟩
      rw [hsd] at HCV HC0 hx2 hx
      have hcv := HCV.out
      have HGC := Aside0.mk (show D.length ≤ grownCap wr D.length 0 5 from grownCap_ge _ _ _ _)
      clear hlt hjf hsd
      by_cases c4 : 8192 < D.length
      · have HS := Aside0.mk (show sealE D = ([], 4) from if_pos c4)
        have HP := Aside0.mk (HTOO.out (HTA.out c4))
        clear c4
        go_wp2_with (fail)
        refine (rSealE_calls _ _ D _ HC0.out.1 HGC.out HDB.out).mono ?_
        rw [HS.out]
        rintro e w5 ⟨v5, rfl, hR, hB⟩
        have HB := Aside0.mk (below_step HSV.out.2 (below_step HC0.out.2 hB))
        clear hR hB
        go_wp2_with (fail)
        go_ret
        rw [← HR.out, HP.out]
        exact ⟨rfl, HT.out.below HB.out, HD.out.below HB.out, Ws.of_below HB.out⟩
      · have HS := Aside0.mk (show sealE D = (sealP D, 0) from if_neg c4)
        have P1 := Aside0.mk (HT2.out c4)
        clear c4
        go_wp2_with (fail)
        refine (rSealE_calls _ _ D _ HC0.out.1 HGC.out HDB.out).mono ?_
        rw [HS.out]
        rintro e w5 ⟨v5, rfl, hR, hB⟩
        obtain ⟨A5, c5, rfl⟩ := Kd.R_slice hR
        have HC5 := Aside0.mk (Kd.R_reads' hR)
        have hB := below_step HC0.out.2 hB
        have HSV5 := Aside0.mk (And.intro (Kd.R_below HSV.out.1 hB) (below_step HSV.out.2 hB))
        have HLN := Aside0.mk (show (X.length + (sealP D).length) * 1 ≤ 140737488355328 by
          have h1 := HFL.out
          rw [HFT.out, List.length_append] at h1
          have h2 := HX.out
          have h3 : X.length = hd.length + ((ls.take j).flatMap sealP).length := by rw [← h2, List.length_append]
          have := HSO.out.all; have := HHL.out
          omega)
        have HW := Aside0.mk (show wrap64 ((j : Int) + 1) = ((j + 1 : Nat) : Int) by
          have := HSO.out.many
          unfold wrap64; omega)
        clear hR hB hx2 hx
        go_wp2_with (first | ((with_reducible refine gate_builtin (b := .append) (xs := #[.tmp 55, .tmp 56]) rfl ?_); at_builtin; refine Kd.R_append_rows (Kd.int .u8) (w0 := w) w.heap.size rfl (.tmp 55) (.tmp 56) 32 5 (.int .u8 0) 1 rfl Try.underlying32 info5' rfl (by decide) (by omega) (.slice A X.length c) X (sealP D) A5 (sealP D).length c5 (fun _ => True) (fun _ => False) rfl rfl HSV5.out.1 HC5.out.2.2 (fun _ _ h => h) (fun _ h => h.elim) (fun _ _ => trivial) HSV5.out.2 HSV5.out.2.size HLN.out ?_; intro v1 w7 h1 h2 h3 _; have HR7 := Aside0.mk h1; have HB7 := Aside0.mk h2; clear h1 h2 h3))
        obtain ⟨A7, c7, e7⟩ := Kd.R_slice HR7.out
        subst e7
        rw [HW.out]
        have hXj : hd ++ (ls.take (j + 1)).flatMap sealP = X ++ sealP D := by rw [HFT.out, ← HX.out, List.append_assoc]
        go_roundg (gk - 1)
        case rel => exact ⟨j + 1, A7, c7, by have := HJF.out; have := hi1; omega, by rw [hXj], rfl, ⟨by rw [hXj]; exact HR7.out, HB7.out⟩, P1⟩
        case measure => have := HJF.out; have := hi1; omega
    · obtain rfl : j = ls.length := by omega
      have e1 : decide ((ls.length : Int) < (ls.length : Int)) = false := decide_eq_false (by omega)
      have HP := Aside0.mk (HFIN.out (by have := P.out; rw [List.take_length] at this; exact this))
      have HXA := Aside0.mk (show hd ++ ls.flatMap sealP = X by have := HX.out; rw [List.take_length] at this; exact this)
      rw [HXA.out] at HP
      have HXL := Aside0.mk (show X.length < 1000000000 by
        rw [← HXA.out, List.length_append]
        have := HSO.out.all; have := HHL.out
        omega)
      clear hlt hjf
      have HT1 := Aside0.mk (HT.out.below HSV.out.2)
      have HD1 := Aside0.mk (HD.out.below HSV.out.2)
      have HXW := Aside0.mk (Rw.of_R (G := fun b => b = g) HSV.out.1 (fun b e => e ▸ HD.out.ltg))
      have HB1 := Aside0.mk HSV.out.2
      have HK1 := Aside0.mk ((HSV.out.2.block t HT.out.lt).trans HBLK.out)
      have hq0 : wr.cell? ⟨t, 0, none⟩ = some (.pointer (some ⟨g, 0, none⟩)) := (blk_cell HK1.out 0).trans rfl
      have hq4 : wr.cell? ⟨t, 4, none⟩ = some (.int .i64 (x.file : Int)) := (blk_cell HK1.out 4).trans rfl
      obtain ⟨f, hf⟩ : ∃ f : Int, 1 - (x.file : Int) = f := ⟨_, rfl⟩
      have hw1 : wrap64 (1 - (x.file : Int)) = f := by have := HSO.out.file; unfold wrap64; omega
      have hw2 : IntKind.i64.wrap (1 - (x.file : Int)) = f := by have := HSO.out.file; clear hw1; exact (IntWalk.i64_in _ (by omega)).trans hf
      have HF := Aside0.mk hf
      obtain ⟨s1, ea, h1⟩ : ∃ s1 ea, clearP s f = (s1, ea) := ⟨_, _, rfl⟩
      obtain ⟨s2, eb, h2⟩ : ∃ s2 eb, appendP s1 f X = (s2, eb) := ⟨_, _, rfl⟩
      obtain ⟨s3, ec, h3⟩ : ∃ s3 ec, syncP s2 f = (s3, ec) := ⟨_, _, rfl⟩
      have HS1 := Aside0.mk h1
      have HS2 := Aside0.mk h2
      have HS3 := Aside0.mk h3
      have HOK1 := Aside0.mk (show Okk s1 by have := HOK.out.clear f; rw [h1] at this; exact this)
      have HOK2 := Aside0.mk (show Okk s2 by have := HOK1.out.append f X; rw [h2] at this; exact this)
      have HRM1 := Aside0.mk (show s1.room ≠ 0 by have := clear_room s f; rw [h1] at this; rw [this]; exact HRM.out)
      have HRM2 := Aside0.mk (show s2.room ≠ 0 by have := append_room s1 f X; rw [h2] at this; rw [this]; exact HRM1.out)
      have HP1 := Aside0.mk (show ea ≠ 0 → saveP x s base ls = (x, s1, ea) by
        intro c
        rw [HP.out]; unfold saveW; simp only [hf, h1]; exact if_pos c)
      have HP2 := Aside0.mk (show ea = 0 → eb ≠ 0 → saveP x s base ls = (x, s2, eb) by
        intro c0 c
        rw [HP.out]; unfold saveW; simp only [hf, h1, h2]; rw [if_neg (fun h => h c0)]; exact if_pos c)
      have HP3 := Aside0.mk (show ea = 0 → eb = 0 → ec ≠ 0 → saveP x s base ls = (x, s3, ec) by
        intro c0 c1 c
        rw [HP.out]; unfold saveW; simp only [hf, h1, h2, h3]; rw [if_neg (fun h => h c0), if_neg (fun h => h c1)]; exact if_pos c)
      have HP4 := Aside0.mk (show ea = 0 → eb = 0 → ec = 0 → saveP x s base ls = (⟨⟨x.r.gen + 1, base, ls⟩, 1 - x.file, ls.length⟩, s3, 0) by
        intro c0 c1 c
        rw [HP.out]; unfold saveW; simp only [hf, h1, h2, h3]; rw [if_neg (fun h => h c0), if_neg (fun h => h c1), if_neg (fun h => h c)])
      clear h1 h2 h3 hf HP HFIN HTOO P HX HXA HSV HHC HHD
      go_wp2_with (fail)
      refine (RClear_calls G g s f _ HD1.out HOK.out HRM.out).mono ?_
      rw [HS1.out]
      rintro e w2 ⟨rfl, hI, hW⟩
      have HI := Aside0.mk hI
      have HW2 := Aside0.mk hW
      have HGG := Aside0.mk hI.gg
      clear hI hW hq0 hq4
      by_cases ca : ea = 0
      rotate_left
      · have d7 : (ea != (0 : Int)) = true := by simpa using ca
        have d8 : (ea == (0 : Int)) = false := by simpa using ca
        have HPP := Aside0.mk (HP1.out ca)
        clear ca
        go_wp2_with (fail)
        go_ret
        rw [← HR.out, HPP.out]
        exact ⟨rfl, HT1.out.ws (Ws.of_wr HW2.out (P := fun b => b = g) rfl) (fun b e => e ▸ HGG.out) (fun e => HNE.out e), HI.out, (Ws.of_below HB1.out).trans (Ws.of_wr HW2.out (.inr rfl))⟩
      subst ca
      have HK2 := Aside0.mk ((HW2.out.block t HT1.out.lt HNE.out).trans HK1.out)
      have hq0 : w2.cell? ⟨t, 0, none⟩ = some (.pointer (some ⟨g, 0, none⟩)) := (blk_cell HK2.out 0).trans rfl
      go_wp2_with (fail)
      refine (RAppend_calls G g s1 f (.slice A X.length c) X _ HI.out HOK1.out HRM1.out (Rw.wr HXW.out HW2.out rfl) HXL.out).mono ?_
      rw [HS2.out]
      rintro e w3 ⟨rfl, hI, hW⟩
      have HI3 := Aside0.mk hI
      have HW3 := Aside0.mk (HW2.out.trans hW)
      clear hI hW hq0
      by_cases cb' : eb = 0
      rotate_left
      · have d7 : (eb != (0 : Int)) = true := by simpa using cb'
        have d8 : (eb == (0 : Int)) = false := by simpa using cb'
        have HPP := Aside0.mk (HP2.out (by first | rfl | trivial) cb')
        clear cb'
        go_wp2_with (fail)
        go_ret
        rw [← HR.out, HPP.out]
        exact ⟨rfl, HT1.out.ws (Ws.of_wr HW3.out (P := fun b => b = g) rfl) (fun b e => e ▸ HGG.out) (fun e => HNE.out e), HI3.out, (Ws.of_below HB1.out).trans (Ws.of_wr HW3.out (.inr rfl))⟩
      subst cb'
      have HK3 := Aside0.mk ((HW3.out.block t HT1.out.lt HNE.out).trans HK1.out)
      have hq0 : w3.cell? ⟨t, 0, none⟩ = some (.pointer (some ⟨g, 0, none⟩)) := (blk_cell HK3.out 0).trans rfl
      go_wp2_with (fail)
      refine (RSync_calls G g s2 f _ HI3.out HOK2.out HRM2.out).mono ?_
      rw [HS3.out]
      rintro e w4 ⟨rfl, hI, hW⟩
      have HI4 := Aside0.mk hI
      have HW4 := Aside0.mk (HW3.out.trans hW)
      clear hI hW hq0
      by_cases cc' : ec = 0
      rotate_left
      · have d7 : (ec != (0 : Int)) = true := by simpa using cc'
        have d8 : (ec == (0 : Int)) = false := by simpa using cc'
        have HPP := Aside0.mk (HP3.out (by first | rfl | trivial) (by first | rfl | trivial) cc')
        clear cc'
        go_wp2_with (fail)
        go_ret
        rw [← HR.out, HPP.out]
        exact ⟨rfl, HT1.out.ws (Ws.of_wr HW4.out (P := fun b => b = g) rfl) (fun b e => e ▸ HGG.out) (fun e => HNE.out e), HI4.out, (Ws.of_below HB1.out).trans (Ws.of_wr HW4.out (.inr rfl))⟩
      subst cc'
      have HPP := Aside0.mk (HP4.out (by first | rfl | trivial) (by first | rfl | trivial) (by first | rfl | trivial))
      have HWS := Aside0.mk (show Ws (TG t g) w w4 from (Ws.of_below HB1.out).trans (Ws.of_wr HW4.out (.inr rfl)))
      have HK4 := Aside0.mk ((HW4.out.block t HT1.out.lt HNE.out).trans HK1.out)
      have HTS := Aside0.mk (show ∀ b, TG t g b → G b from fun b hb => hb.elim (fun e => e ▸ hgt) (fun e => e ▸ HGG.out))
      have HL4 := Aside0.mk (HLV.out.ws HWS.out HTS.out)
      have HC4 := Aside0.mk (show Kd.C Kd.string w4 Al ls.length (ls.map strOfNums) by
        obtain ⟨_, _, ee, _, hC2⟩ := HL4.out.slice
        injection ee with ee1 _ ee3
        rw [ee1]
        simpa using hC2)
      clear HP1 HP2 HP3 HP4 HS1 HS2 HS3 HK2 HK3 HI HI3 HW2 HW3 HOK1 HOK2 HLV HCL HXW
      have k1 := blk_put (cs' := #[.pointer (some ⟨g, 0, none⟩), .int .i64 (x.r.gen + 1), .string (strOfNums x.r.base), tl, .int .i64 (x.file : Int), .int .i64 (x.kept : Int)]) HK4.out 1 (.int .i64 (x.r.gen + 1)) rfl
      have w1_ := (Wr.refl t w4).set 1 (.int .i64 (x.r.gen + 1))
      have k2 := blk_put (cs' := #[.pointer (some ⟨g, 0, none⟩), .int .i64 (x.r.gen + 1), .string st, tl, .int .i64 (x.file : Int), .int .i64 (x.kept : Int)]) k1 2 (.string st) rfl
      have w2_ := w1_.set 2 (.string st)
      have hc1 := (blk_cell HK4.out 1).trans (show _ = some (Value.int .i64 x.r.gen) from rfl)
      have hf1 := blk_frozen HK4.out 1
      have hc2 := (blk_cell HK4.out 2).trans (show _ = some (Value.string (strOfNums x.r.base)) from rfl)
      have hc2k := (blk_cell k1 2).trans (show _ = some (Value.string (strOfNums x.r.base)) from rfl)
      have hf2 := blk_frozen k1 2
      have hf3 := blk_frozen k2 3
      have HK6 := Aside0.mk k2
      have HX6 := Aside0.mk (blk_lt k2)
      have HF3 := Aside0.mk hf3
      have HF4 := Aside0.mk (blk_frozen k2 4)
      have HF5 := Aside0.mk (blk_frozen k2 5)
      have HE5 := Aside0.mk ((blk_cell k2 5).trans (show _ = some (Value.int .i64 (x.kept : Int)) from rfl))
      have HWT := Aside0.mk w2_
      have HC6 := Aside0.mk (show Kd.C Kd.string _ Al ls.length (ls.map strOfNums) from by
        obtain ⟨_, _, ee, _, hC2⟩ := (HL4.out.ws (Ws.of_wr w2_ (P := fun b => b = t) rfl) (fun b e => e ▸ hgt)).slice
        injection ee with ee1 _ ee3
        rw [ee1]
        simpa using hC2)
      have HLM := Aside0.mk (show ls.length < 1000000000 from HSO.out.many)
      clear w1_ w2_
      clear k1 k2
      have hg1 : wrap64 (x.r.gen + 1) = x.r.gen + 1 := HW1.out
      have hg2 : IntKind.i64.wrap (x.r.gen + 1) = x.r.gen + 1 := by have := HSO.out.gen; clear hg1; exact IntWalk.i64_in _ (by omega)
      go_wp2_with (first | ((with_reducible refine gate_dst (N := 104) rfl ?_); refine Kd.R_lit Kd.string _ 9 ?hg (N := 104) ?hd (xs := ([] : List ByteArray)) (inner := []) (ok := fun _ => True) (okp := fun _ => True) ?hr ?hp (fun _ hk => hk) trivial (Below.refl _ _) (Nat.le_refl _) (by simp) ?_; (case hd => rfl); (case hg => rfl); (case hr => first | (go_simp; done) | (go_simp; rfl)); (case hp => exact (Reps.none _ _)); intro va w5 ho5 hb hg_ hnew_; have HO5 := Aside0.mk ho5; have HB5 := Aside0.mk hb; clear hg_ hnew_ ho5 hb) | ((with_reducible refine gate_builtin (b := .append) (xs := #[.tmp 104, .tmp 105]) rfl ?_); at_builtin; refine Kd.R_append_rows Kd.string (w0 := (w4.setCell ⟨t, 1, none⟩ (.int .i64 (x.r.gen + 1))).setCell ⟨t, 2, none⟩ (.string st)) ((w4.setCell ⟨t, 1, none⟩ (.int .i64 (x.r.gen + 1))).setCell ⟨t, 2, none⟩ (.string st)).heap.size rfl (.tmp 104) (.tmp 105) 81 9 (.string ⟨#[]⟩) 16 rfl Try.underlying81 info9' rfl (by decide) (by omega) va [] (ls.map strOfNums) _ _ _ (fun _ => True) (fun _ => False) rfl rfl ?aO ?aR (fun _ _ h => h) (fun _ h => h.elim) ?aF ?aB ?aS ?aL ?_; (case aR => exact Kd.C_below HC6.out HB5.out); (case aB => exact HB5.out); (case aF => exact (fun _ _ => trivial)); (case aO => exact HO5.out); (case aS => exact HB5.out.size); (case aL => simp only [List.length_nil]; have := HLM.out; omega); intro vb w6 ho hb hg hat; rw [List.nil_append] at ho; obtain ⟨A6, c6, e6⟩ := Kd.R_slice ho; subst e6; have HO6 := Aside0.mk ho; have HB6 := Aside0.mk hb; have hf3b := (hb.frozen (p := ⟨t, 3, none⟩) HX6.out).trans HF3.out; have hf4b := (hb.frozen (p := ⟨t, 4, none⟩) HX6.out).trans HF4.out; have hf5b := (hb.frozen (p := ⟨t, 5, none⟩) HX6.out).trans HF5.out; have hc5b := (hb.cell (p := ⟨t, 5, none⟩) HX6.out).trans HE5.out; have k6 := blk_below HK6.out hb; have hc3b := (blk_cell k6 3).trans (show _ = some tl from rfl); have k3 := blk_put (cs' := #[.pointer (some ⟨g, 0, none⟩), .int .i64 (x.r.gen + 1), .string st, .slice A6 ls.length c6, .int .i64 (x.file : Int), .int .i64 (x.kept : Int)]) k6 3 (.slice A6 ls.length c6) rfl; have k4 := blk_put (cs' := #[.pointer (some ⟨g, 0, none⟩), .int .i64 (x.r.gen + 1), .string st, .slice A6 ls.length c6, .int .i64 f, .int .i64 (x.kept : Int)]) k3 4 (.int .i64 f) rfl; have hf4c := blk_frozen k3 4; have hf5c := blk_frozen k4 5; have hc4c := (blk_cell k3 4).trans (show _ = some (Value.int .i64 (x.file : Int)) from rfl); have hc5c := (blk_cell k4 5).trans (show _ = some (Value.int .i64 (x.kept : Int)) from rfl); clear ho hb hg hat k6 k3 k4))
      go_ret
      rw [← HR.out, HPP.out]
      have k6 := blk_below HK6.out HB6.out
      have k3 := blk_put (cs' := #[.pointer (some ⟨g, 0, none⟩), .int .i64 (x.r.gen + 1), .string st, .slice A6 ls.length c6, .int .i64 (x.file : Int), .int .i64 (x.kept : Int)]) k6 3 (.slice A6 ls.length c6) rfl
      have k4 := blk_put (cs' := #[.pointer (some ⟨g, 0, none⟩), .int .i64 (x.r.gen + 1), .string st, .slice A6 ls.length c6, .int .i64 f, .int .i64 (x.kept : Int)]) k3 4 (.int .i64 f) rfl
      have k5 := blk_put (cs' := #[.pointer (some ⟨g, 0, none⟩), .int .i64 (x.r.gen + 1), .string st, .slice A6 ls.length c6, .int .i64 f, .int .i64 (ls.length : Int)]) k4 5 (.int .i64 (ls.length : Int)) rfl
      have hfe : ((1 - x.file : Nat) : Int) = f := by have := HF.out; have := HSO.out.file; omega
      rw [← hfe] at k5
      have hw6 : Wr t w4 w6 := HWT.out.trans (Wr.of_below HB6.out)
      have hw7 := ((hw6.set 3 (.slice A6 ls.length c6)).set 4 (.int .i64 f)).set 5 (.int .i64 (ls.length : Int))
      have hw67 := ((((Wr.refl t w6).set 3 (.slice A6 ls.length c6)).set 4 (.int .i64 f)).set 5 (.int .i64 (ls.length : Int)))
      have hst6 : St G w6 (.slice A6 ls.length c6) (ls.map strOfNums) := by
        have := St.of_R (G := G) HO6.out (fun b hb => Nat.lt_of_lt_of_le (HI4.out.lt b hb) HWT.out.size)
        simpa using this
      rw [← hfe]
      rw [← hfe] at hw7 hw67
      refine ⟨rfl, ⟨hgt, .slice A6 ls.length c6, ?_, hst6.ws (Ws.of_wr hw67 (P := fun b => b = t) rfl) (fun b e => e ▸ hgt)⟩, IsX.other HI4.out hw7 hgt (Ne.symm HNE.out), HWS.out.trans (Ws.of_wr hw7 (.inl rfl))⟩
      rw [← HST.out] at k5
      exact k5
end Go.Proofs.Ytehjbhnlbjbhfaa.Rt
-- RtE
namespace Go.Proofs.Ytehjbhnlbjbhfaa.Rt
open Go Go.RowKit Go.Proofs.YtehjbhnlbjbhfaaW.PrintWords Go.Proofs.YtehjbhnlbjbhfaaW.PrintLast Go.Proofs.YtehjbhnlbjbhfaaW.PrintMore Go.Proofs.Ytehjbhnlbjbhfaa.Wire Go.Proofs.Ytehjbhnlbjbhfaa.Wk Go.Proofs.Ytehjbhnlbjbhfaa.Dk Go.Proofs.Ytehjbhnlbjbhfaa.Tp Go.Proofs.Ytehjbhnlbjbhfaa.Rd
set_option linter.unusedVariables false
set_option linter.unusedSimpArgs false
theorem IsX.more {G : Nat → Prop} {g b : Nat} {W W' : World} {s : DS} (h : IsX G W g s) (hb : W.heap.size ≤ b) (hb' : b < W'.heap.size) (hw : Below W.heap.size W W') : IsX (fun k => G k ∨ k = b) W' g s :=
  IsX.wsmore h (P := fun _ => False) (Ws.of_below hw) (fun _ h => h.elim) (fun h => h) hb hb'
def OpenedY (G : Nat → Prop) (w : World) (t g : Nat) (r : Option TS × DS × Int) (p : Value) (w' : World) : Prop :=
  IsX (fun k => G k ∨ k = t) w' g r.2.1 ∧ Ws (fun b => b = g) w w' ∧ match r.1 with
    | none => p = .pointer none
    | some x => p = .pointer (some ⟨t, 0, none⟩) ∧ IsY (fun k => G k ∨ k = t) w' t g x
def OSY (G : Nat → Prop) (w : World) (t g : Nat) (s : DS) (f : Nat) (W : World) : Prop :=
  IsX (fun k => G k ∨ k = t) W g s ∧ IsY (fun k => G k ∨ k = t) W t g (pk s f).1 ∧ Below w.heap.size w W
set_option maxHeartbeats 8000000 in
set_option maxRecDepth 100000 in
theorem rOpen_calls (G : Nat → Prop) (g : Nat) (s : DS) (w : World) (h : IsX G w g s) (hok : Okk s) (hb : BsD s) (hrm : s.room ≠ 0) :
    Calls Try.prog 34 #[.pointer (some ⟨g, 0, none⟩)] w fun e w' => ∃ p, e = .returned (.tuple #[p, .int .i64 (openT s).2.2]) ∧ OpenedY G w w.heap.size g (openT s) p w' := by
  have HOK := Aside0.mk hok
  have HBS := Aside0.mk hb
  have HRM := Aside0.mk hrm
  have HGT := Aside0.mk h.ltg
  obtain ⟨r, hr⟩ : ∃ r, openT s = r := ⟨_, rfl⟩
  rw [hr]
  have HR := Aside0.mk hr
  obtain ⟨t, ht⟩ : ∃ t, w.heap.size = t := ⟨_, rfl⟩
  have HTT := Aside0.mk ht
  rw [ht]
  have hbl := below_alloc (Below.refl w.heap.size w) (.cells (docCells ⟨noReel, 1, 0⟩ ⟨#[]⟩ (.slice none 0 0) g) 92)
  have hnew := blk_new w (.cells (docCells ⟨noReel, 1, 0⟩ ⟨#[]⟩ (.slice none 0 0) g) 92)
  rw [ht] at hnew
  have H0 := Aside0.mk (show OSY G w t g s 0 (w.alloc (.cells (docCells ⟨noReel, 1, 0⟩ ⟨#[]⟩ (.slice none 0 0) g) 92)) from
    ⟨IsX.more h (by omega) (by simp; omega) hbl, ⟨.inr rfl, _, hnew, Kd.V_nil _ _ _ _ _⟩, hbl⟩)
  clear hr h hok hb hbl hnew hrm
  go_enter Try.func34, Try.ntmps34
  go_wp2_with (fail)
  go_loopg [5, 17] 2 (fun fu v5 v17 wr => ∃ f : Nat, f + fu = 2 ∧ v5 = .bool (pk s f).2 ∧ v17 = .int .i64 (f : Int) ∧ Aside0 (OSY G w t g s f wr) ∧ Aside0 (0 < f → ableP s 0 = 0))
  case atStart => exact ⟨0, rfl, rfl, rfl, H0, ⟨fun h => absurd h (by decide)⟩⟩
  case round =>
    obtain ⟨f, hff, rfl, rfl, H, HA⟩ := hrel
    clear H0
    have HFF := Aside0.mk hff
    by_cases hlt : f < 2
    · have e1 : decide ((f : Int) < 2) = true := decide_eq_true (by omega)
      have e1n : decide (f < 2) = true := decide_eq_true (by omega)
      have HLT := Aside0.mk hlt
      have HAB := Aside0.mk (able01 s f (by omega))
      have HRX := Aside0.mk (read_alike HRM.out (f : Int))
      have HBY := Aside0.mk (show ∀ f ∈ s.fs, By f.seen from fun f hf => (HBS.out f hf).1)
      by_cases ca : ableP s 0 = 0
      rotate_left
      · have HRD := Aside0.mk (show readX s (f : Int) = ([], ableP s 0) by rw [HRX.out]; unfold readP; rw [HAB.out, if_pos ca])
        have HP := Aside0.mk (show openT s = (none, s, ableP s 0) by unfold openT; rw [if_pos ca])
        have d1 : (ableP s 0 != (0 : Int)) = true := by simpa using ca
        have d2 : (ableP s 0 == (0 : Int)) = false := by simpa using ca
        clear ca hlt hff
        generalize ableP s 0 = er at *
        go_wp2_with (fail)
        refine (RRead_calls _ g s (f : Int) _ H.out.1 HOK.out.1 HBY.out).mono ?_
        rw [HRD.out]
        rintro e w2 ⟨A, c, rfl, hc, hC, hB⟩
        have HB := Aside0.mk (below_step H.out.2.2 hB)
        have HD2 := Aside0.mk (H.out.1.below hB)
        clear hC hB hc
        go_wp2_with (fail)
        go_ret2
        rw [← HR.out, HP.out]
        exact ⟨_, rfl, HD2.out, Ws.of_below HB.out, rfl⟩
      · have HRD := Aside0.mk (show readX s (f : Int) = ((fl s f).seen, 0) by rw [HRX.out]; unfold readP; rw [HAB.out, if_neg (fun h => h ca), Int.toNat_natCast])
        have HSL := Aside0.mk (show (fl s f).seen.length < 1000000000 by have := HOK.out.1.seen_le (i := f) (by omega); omega)
        have HSB := Aside0.mk (HBS.out.fl f).1
        have HNX := Aside0.mk (show pk s (f + 1) = if (pk s f).1.r.gen < (readT (Dk.fl s f).seen).1.gen then (⟨(readT (Dk.fl s f).seen).1, f, 0⟩, (readT (Dk.fl s f).seen).2) else pk s f from rfl)
        have HKE := Aside0.mk (pk_rok HBS.out HOK.out.1 f (by omega)).2
        have HCA := Aside0.mk ca
        clear ca hlt hff
        generalize (fl s f).seen = sn at *
        obtain ⟨⟨⟨qg, qb, ql⟩, more⟩, hq⟩ : ∃ q, readT sn = q := ⟨_, rfl⟩
        have HQ := Aside0.mk hq
        rw [hq] at HNX
        clear hq
        go_wp2_with (fail)
        refine (RRead_calls _ g s (f : Int) _ H.out.1 HOK.out.1 HBY.out).mono ?_
        rw [HRD.out]
        rintro e w2 ⟨A, c, rfl, hc, hC, hB⟩
        have HC := Aside0.mk (And.intro hc hC)
        have HD2 := Aside0.mk (H.out.1.below hB)
        have HT2 := Aside0.mk (H.out.2.1.below hB)
        have HB2 := Aside0.mk (below_step H.out.2.2 hB)
        clear hC hc hB H
        go_wp2_with (fail)
        refine (reel_calls A c sn _ HC.out.2 HC.out.1 HSB.out HSL.out).mono ?_
        rw [HQ.out]
        rintro e w3 ⟨lV, rfl, hVl, hB⟩
        have HWl := Aside0.mk (show St (fun k => G k ∨ k = t) w3 lV (ql.map strOfNums) from St.of_R hVl HD2.out.lt)
        have HD3 := Aside0.mk (HD2.out.below hB)
        have HT3 := Aside0.mk (HT2.out.below hB)
        have HB3 := Aside0.mk (below_step HB2.out hB)
        clear hVl hB HD2 HT2 HB2 HC
        obtain ⟨AV, cV, rfl, _, _⟩ := HWl.out.slice
        have hml2 : (ql.map strOfNums).length = ql.length := by simp
        rw [hml2] at HWl ⊢
        clear hml2
        obtain ⟨hgt, tl, hblk, htl⟩ := HT3.out
        have HBK := Aside0.mk hblk
        have ht1 := (blk_cell hblk 1).trans (show _ = some (Value.int .i64 (pk s f).1.r.gen) from rfl)
        have ht2 := (blk_cell hblk 2).trans (show _ = some (Value.string (strOfNums (pk s f).1.r.base)) from rfl)
        have ht3 := (blk_cell hblk 3).trans (show _ = some tl from rfl)
        have ht4 := (blk_cell hblk 4).trans (show _ = some (Value.int .i64 ((pk s f).1.file : Int)) from rfl)
        have hf1 := blk_frozen hblk 1
        have hf2 := blk_frozen hblk 2
        have hf3 := blk_frozen hblk 3
        have hf4 := blk_frozen hblk 4
        have HW := Aside0.mk (show wrap64 ((f : Int) + 1) = ((f + 1 : Nat) : Int) by have := HLT.out; unfold wrap64; omega)
        obtain ⟨sb, hsb⟩ : ∃ sb, strOfNums qb = sb := ⟨_, rfl⟩
        have HSTB := Aside0.mk hsb
        rw [show strOfNums qb = sb from hsb]
        clear hblk htl e1 e1n hsb
        by_cases cg : (pk s f).1.r.gen < qg
        · have hpk := HNX.out
          rw [if_pos cg] at hpk
          have HPK := Aside0.mk hpk
          have e2 : decide (qg > (pk s f).1.r.gen) = true := decide_eq_true cg
          have e3 : decide ((pk s f).1.r.gen < qg) = true := decide_eq_true cg
          clear cg hpk
          generalize (pk s f).1.r.gen = pg at *
          have q1 := blk_put (cs' := #[.pointer (some ⟨g, 0, none⟩), .int .i64 qg, .string (strOfNums (pk s f).1.r.base), tl, .int .i64 ((pk s f).1.file : Int), .int .i64 ((pk s f).1.kept : Int)]) HBK.out 1 (.int .i64 qg) rfl
          have q2 := blk_put (cs' := #[.pointer (some ⟨g, 0, none⟩), .int .i64 qg, .string sb, tl, .int .i64 ((pk s f).1.file : Int), .int .i64 ((pk s f).1.kept : Int)]) q1 2 (.string sb) rfl
          have q3 := blk_put (cs' := #[.pointer (some ⟨g, 0, none⟩), .int .i64 qg, .string sb, .slice AV ql.length cV, .int .i64 ((pk s f).1.file : Int), .int .i64 ((pk s f).1.kept : Int)]) q2 3 (.slice AV ql.length cV) rfl
          have q4 := blk_put (cs' := #[.pointer (some ⟨g, 0, none⟩), .int .i64 qg, .string sb, .slice AV ql.length cV, .int .i64 (f : Int), .int .i64 ((pk s f).1.kept : Int)]) q3 4 (.int .i64 (f : Int)) rfl
          rw [HKE.out, ← HSTB.out] at q4
          have hwr := ((((Wr.refl t w3).set 1 (.int .i64 qg)).set 2 (.string (strOfNums qb))).set 3 (.slice AV ql.length cV)).set 4 (.int .i64 (f : Int))
          have hws : Ws (fun b => b = t) w3 _ := Ws.of_wr hwr rfl
          have hle : w.heap.size ≤ t := by have := HTT.out; omega
          have HIT := Aside0.mk (show IsY (fun k => G k ∨ k = t) _ t g ⟨⟨qg, qb, ql⟩, f, 0⟩ from ⟨.inr rfl, _, q4, HWl.out.ws hws (fun b e => .inr e)⟩)
          have HID := Aside0.mk (IsX.other HD3.out hwr (.inr rfl) (by have := HGT.out; have := HTT.out; omega))
          have HIB := Aside0.mk ((((HB3.out.setCell (p := ⟨t, 1, none⟩) hle (.int .i64 qg)).setCell (p := ⟨t, 2, none⟩) hle (.string (strOfNums qb))).setCell (p := ⟨t, 3, none⟩) hle (.slice AV ql.length cV)).setCell (p := ⟨t, 4, none⟩) hle (.int .i64 (f : Int)))
          rw [HSTB.out] at HIT HID HIB
          clear q1 q2 q3 q4 hwr hws hle
          go_wp2_with (fail)
          rw [HW.out]
          go_roundg (gk - 1)
          case rel => exact ⟨f + 1, by have := HFF.out; have := HLT.out; omega, by rw [HPK.out], rfl, ⟨by unfold OSY; rw [HPK.out]; exact ⟨HID.out, HIT.out, HIB.out⟩⟩, ⟨fun _ => HCA.out⟩⟩
          case measure => have := HFF.out; have := HLT.out; omega
        · have hpk := HNX.out
          rw [if_neg cg] at hpk
          have HPK := Aside0.mk hpk
          have e2 : decide (qg > (pk s f).1.r.gen) = false := decide_eq_false cg
          have e3 : decide ((pk s f).1.r.gen < qg) = false := decide_eq_false cg
          clear cg hpk
          generalize (pk s f).1.r.gen = pg at *
          go_wp2_with (fail)
          rw [HW.out]
          go_roundg (gk - 1)
          case rel => exact ⟨f + 1, by have := HFF.out; have := HLT.out; omega, by rw [HPK.out], rfl, ⟨by unfold OSY; rw [HPK.out]; exact ⟨HD3.out, HT3.out, HB3.out⟩⟩, ⟨fun _ => HCA.out⟩⟩
          case measure => have := HFF.out; have := HLT.out; omega
    · obtain rfl : f = 2 := by omega
      have e1 : decide (((2 : Nat) : Int) < 2) = false := by decide
      have HCA := Aside0.mk (HA.out (by decide))
      obtain ⟨⟨x0, dirty⟩, hpk⟩ : ∃ q, pk s 2 = q := ⟨_, rfl⟩
      have HRO := Aside0.mk (pk_rok HBS.out HOK.out.1 2 (by decide))
      have HFI := Aside0.mk (show (pk s 2).1.file ≤ 1 by rcases pk_ok HBS.out HOK.out.1 2 with h | h <;> omega)
      have HH := Aside0.mk (show IsX (fun k => G k ∨ k = t) wr g s ∧ IsY (fun k => G k ∨ k = t) wr t g x0 ∧ Below w.heap.size w wr by have := H.out; unfold OSY at this; rw [hpk] at this; exact this)
      have HPI := Aside0.mk (show picked s = (x0, dirty) from hpk)
      rw [hpk] at HRO HFI ⊢
      clear hpk H HA hlt hff
      obtain ⟨hgt, tl, hblk, htl⟩ := HH.out.2.1
      obtain ⟨Al, cl, rfl, _, _⟩ := htl.slice
      have hml : (x0.r.l.map strOfNums).length = x0.r.l.length := by simp
      rw [hml] at hblk htl
      have hle : w.heap.size ≤ t := by have := HTT.out; omega
      have hc3 := (blk_cell hblk 3).trans (show _ = some (Value.slice Al x0.r.l.length cl) from rfl)
      have hc5 := (blk_cell hblk 5).trans (show _ = some (Value.int .i64 (x0.kept : Int)) from rfl)
      have hc1 := (blk_cell hblk 1).trans (show _ = some (Value.int .i64 x0.r.gen) from rfl)
      have hf5 := blk_frozen hblk 5
      have q5 := blk_put (cs' := docCells ⟨x0.r, x0.file, x0.r.l.length⟩ (strOfNums x0.r.base) (.slice Al x0.r.l.length cl) g) hblk 5 (.int .i64 (x0.r.l.length : Int)) rfl
      have hwr := (Wr.refl t wr).set 5 (.int .i64 (x0.r.l.length : Int))
      have hws : Ws (fun b => b = t) wr _ := Ws.of_wr hwr rfl
      have HTX0 := Aside0.mk (And.intro q5 (htl.ws hws (fun b e => .inr e)))
      have HDX0 := Aside0.mk (IsX.other HH.out.1 hwr (.inr rfl) (by have := HGT.out; have := HTT.out; omega))
      have HBX0 := Aside0.mk (HH.out.2.2.setCell (p := ⟨t, 5, none⟩) hle (.int .i64 (x0.r.l.length : Int)))
      clear q5 hwr hws hle hblk htl hml
      by_cases cn : x0.r.gen = 0 ∨ dirty = true
      rotate_left
      · have hg0 : x0.r.gen ≠ 0 := fun e => cn (.inl e)
        have hd0 : dirty = false := by cases dirty; rfl; exact absurd (.inr rfl) cn
        subst hd0
        have d1 : (x0.r.gen == (0 : Int)) = false := by simpa using hg0
        have d2 : (x0.r.gen != (0 : Int)) = true := by simpa using hg0
        have HP := Aside0.mk (show openT s = (some ⟨x0.r, x0.file, x0.r.l.length⟩, s, 0) by
          unfold openT
          rw [HPI.out]
          simp only
          rw [if_neg (fun h => h HCA.out)]
          exact if_neg cn)
        clear cn hg0
        go_wp2_with (fail)
        go_ret2
        rw [← HR.out, HP.out]
        refine ⟨_, rfl, HDX0.out, Ws.of_below HBX0.out, rfl, .inr rfl, _, HTX0.out.1, HTX0.out.2⟩
      · obtain ⟨x9, s9, e9, hsv⟩ : ∃ x9 s9 e9, saveP ⟨x0.r, x0.file, x0.r.l.length⟩ s x0.r.base x0.r.l = (x9, s9, e9) := ⟨_, _, _, rfl⟩
        have HSV := Aside0.mk hsv
        have HPS := Aside0.mk (show openT s = if e9 ≠ 0 then (none, s9, e9) else (some x9, s9, 0) by
          unfold openT
          rw [HPI.out]
          simp only
          rw [if_neg (fun h => h HCA.out), if_pos cn, hsv])
        have HSO := Aside0.mk (show SaveOk ⟨x0.r, x0.file, x0.r.l.length⟩ x0.r.base x0.r.l from
          have ho := HRO.out.1
          ⟨⟨ho.gen.1, by have h2 : x0.r.gen ≤ 1099511627776 := ho.gen.2; show x0.r.gen < 9223372036854775807; omega⟩, HFI.out, ho.bb, fun d hd => (ho.bl d hd).1, by have h2 : x0.r.base.length ≤ 8176 := ho.base; omega, by have := flat_len x0.r.l; have h2 : (x0.r.l.flatMap sealP).length ≤ 4194304 := ho.all; omega, by have h2 : (x0.r.l.flatMap sealP).length ≤ 4194304 := ho.all; omega⟩)
        have HBL := Aside0.mk (show x0.r.base.length < 1000000 by have h2 : x0.r.base.length ≤ 8176 := HRO.out.1.base; omega)
        have HGF := Aside0.mk (show (⟨x0.r, x0.file, x0.r.l.length⟩ : TS).r.gen ≤ 1099511627776 from HRO.out.1.gen.2)
        clear hsv
        by_cases cg : x0.r.gen = 0
        · have d1 : (x0.r.gen == (0 : Int)) = true := by simpa using cg
          clear cn cg
          go_wp2_with (fail)
          refine with_w (fun w' => w'.heap[t]? = some (.cells (docCells ⟨x0.r, x0.file, x0.r.l.length⟩ (strOfNums x0.r.base) (.slice Al x0.r.l.length cl) g) 92 (0, 0)) ∧ St (fun k => G k ∨ k = t) w' (.slice Al x0.r.l.length cl) (x0.r.l.map strOfNums) ∧ IsX (fun k => G k ∨ k = t) w' g s ∧ Below w.heap.size w w') ⟨HTX0.out.1, HTX0.out.2, HDX0.out, HBX0.out⟩ ?_
          rintro wq ⟨hbx, hrl, hdx, hbw⟩
          have HBX := Aside0.mk (blk_drew hbx)
          have HLX := Aside0.mk (St.below hrl (below_drew1 (Below.refl wq.heap.size wq)))
          have HDX := Aside0.mk (IsX.below hdx (below_drew1 (Below.refl wq.heap.size wq)))
          have HBW := Aside0.mk (below_drew1 hbw)
          have HTX := Aside0.mk (show IsY (fun k => G k ∨ k = t) wq.drew t g ⟨x0.r, x0.file, x0.r.l.length⟩ from ⟨.inr rfl, _, HBX.out, HLX.out⟩)
          clear hbx hrl hdx hbw HTX0 HDX0 HBX0 hc1 hc3 hc5 hf5 HH
          replace HBX := HBX.out
          refine start_ (n := 11) (S := fun w' => w'.heap[t]? = some (.cells (docCells ⟨x0.r, x0.file, x0.r.l.length⟩ (strOfNums x0.r.base) (.slice Al x0.r.l.length cl) g) 92 (0, 0))) (ds := [9]) #[false, false, false, false, false, false, false, false, false, false, false] (by kernel_rfl) rfl rfl (HBX) (fun hHeld => ?_)
          refine pure_ (i := 0) (N := some 76) (v := ?_) (a' := ?_) #[true, false, false, false, false, false, false, false, false, false, false] rfl rfl (by kernel_rfl) (fun _ _ _ h => h) (Or.inl ⟨by rfl, ?_⟩) ?_ ?_
          rotate_left
          · intro w'
            go_simp
            with_reducible rfl
          rotate_left
          · simp only [Act.put, List.setIfInBounds_toArray, List.set_cons_zero, List.set_cons_succ, i64_w, i32_w]
            rfl
          refine pure_ (i := 1) (N := some 77) (v := ?_) (a' := ?_) #[true, true, false, false, false, false, false, false, false, false, false] rfl rfl (by kernel_rfl) (fun _ _ _ h => h) (Or.inl ⟨by rfl, ?_⟩) ?_ ?_
          rotate_left
          · intro w'
            go_simp
            with_reducible rfl
          rotate_left
          · simp only [Act.put, List.setIfInBounds_toArray, List.set_cons_zero, List.set_cons_succ, i64_w, i32_w]
            rfl
          refine pure_ (i := 2) (N := some 78) (v := ?_) (a' := ?_) #[true, true, true, false, false, false, false, false, false, false, false] rfl rfl (by kernel_rfl) (fun _ _ _ h => h) (Or.inl ⟨by rfl, ?_⟩) ?_ ?_
          rotate_left
          · intro w'
            go_simp
            with_reducible rfl
          rotate_left
          · simp only [Act.put, List.setIfInBounds_toArray, List.set_cons_zero, List.set_cons_succ, i64_w, i32_w]
            rfl
          refine pure_ (i := 3) (N := some 79) (v := ?_) (a' := ?_) #[true, true, true, true, false, false, false, false, false, false, false] rfl rfl (by kernel_rfl) (fun _ _ _ h => h) (Or.inl ⟨by rfl, ?_⟩) ?_ ?_
          rotate_left
          · intro w'
            go_simp
            with_reducible rfl
          rotate_left
          · simp only [Act.put, List.setIfInBounds_toArray, List.set_cons_zero, List.set_cons_succ, i64_w, i32_w]
            rfl
          refine pure_ (i := 5) (N := some 81) (v := ?_) (a' := ?_) #[true, true, true, true, false, true, false, false, false, false, false] rfl rfl (by kernel_rfl) (fun _ _ _ h => h) (Or.inl ⟨by rfl, ?_⟩) ?_ ?_
          rotate_left
          · intro w'
            go_simp
            with_reducible rfl
          rotate_left
          · simp only [Act.put, List.setIfInBounds_toArray, List.set_cons_zero, List.set_cons_succ, i64_w, i32_w]
            rfl
          refine pure_ (i := 6) (N := some 82) (v := ?_) (a' := ?_) #[true, true, true, true, false, true, true, false, false, false, false] rfl rfl (by kernel_rfl) (fun _ _ _ h => h) (Or.inl ⟨by rfl, ?_⟩) ?_ ?_
          rotate_left
          · intro w'
            go_simp
            with_reducible rfl
          rotate_left
          · simp only [Act.put, List.setIfInBounds_toArray, List.set_cons_zero, List.set_cons_succ, i64_w, i32_w]
            rfl
          refine pure_ (i := 7) (N := some 83) (v := ?_) (a' := ?_) #[true, true, true, true, false, true, true, true, false, false, false] rfl rfl (by kernel_rfl) (fun _ _ _ h => h) (Or.inl ⟨by rfl, ?_⟩) ?_ ?_
          rotate_left
          · intro w'
            go_simp
            with_reducible rfl
          rotate_left
          · simp only [Act.put, List.setIfInBounds_toArray, List.set_cons_zero, List.set_cons_succ, i64_w, i32_w]
            rfl
          refine take_ (i := 4) (N := some 80) (v := ?_) (a' := ?_) #[true, true, true, true, true, true, true, true, false, false, false] rfl rfl (by kernel_rfl) (fun _ _ _ h => h) (Or.inl ⟨by rfl, ?_⟩) hHeld ?_ ?_
          rotate_left
          · intro w' s0
            have d2_ := (blk_cell s0 2).trans (show _ = some (Value.string (strOfNums x0.r.base)) from rfl)
            go_simp
            with_reducible rfl
          rotate_left
          · simp only [Act.put, List.setIfInBounds_toArray, List.set_cons_zero, List.set_cons_succ, i64_w, i32_w]
            rfl
          refine take_ (i := 8) (N := some 84) (v := ?_) (a' := ?_) #[true, true, true, true, true, true, true, true, true, false, false] rfl rfl (by kernel_rfl) (fun _ _ _ h => h) (Or.inl ⟨by rfl, ?_⟩) hHeld ?_ ?_
          rotate_left
          · intro w' s0
            have d2_ := (blk_cell s0 3).trans (show _ = some (Value.slice Al x0.r.l.length cl) from rfl)
            go_simp
            with_reducible rfl
          rotate_left
          · simp only [Act.put, List.setIfInBounds_toArray, List.set_cons_zero, List.set_cons_succ, i64_w, i32_w]
            rfl
          refine last_ (i := 9) (N := some 85) #[true, true, true, true, true, true, true, true, true, true, false] rfl rfl (by kernel_rfl) (by decide) (fun K hK => ?_)
          refine goes_ Try.func49 (by kernel_rfl) rfl #[.pointer (some ⟨t, 0, none⟩), .string (strOfNums x0.r.base), .slice Al x0.r.l.length cl] (by rfl) rfl rfl (by first | rfl | (simp; done) | (simp only [List.map_toArray, List.map_cons, List.map_nil]; rfl)) ?_
          with_reducible refine (rSave_calls (fun k => G k ∨ k = t) t g ⟨x0.r, x0.file, x0.r.l.length⟩ s (.slice Al x0.r.l.length cl) x0.r.base x0.r.l _ HTX.out HDX.out HOK.out HRM.out HLX.out HSO.out HBL.out HGF.out).mono ?_
          rw [HSV.out]
          rintro e w6 ⟨rfl, hT6, hD6, hW6⟩
          refine ⟨_, rfl, ?_⟩
          refine hK.out _ _ ?_
          clear hK K
          refine norm_ (a' := ?_) ?_ ?_
          rotate_left
          · show Act.put _ (some 85) _ = _
            simp only [Act.put, List.setIfInBounds_toArray, List.set_cons_zero, List.set_cons_succ, i64_w, i32_w]
            rfl
          refine pure_ (i := 10) (N := some 13) (v := ?_) (a' := ?_) #[true, true, true, true, true, true, true, true, true, true, true] rfl rfl (by kernel_rfl) (fun _ _ _ h => h) (Or.inl ⟨by rfl, ?_⟩) ?_ ?_
          rotate_left
          · intro w'
            go_simp
            with_reducible rfl
          rotate_left
          · simp only [Act.put, List.setIfInBounds_toArray, List.set_cons_zero, List.set_cons_succ, i64_w, i32_w]
            rfl
          refine done_ (by kernel_rfl) ?_
          have HT6 := Aside0.mk hT6
          have HD6 := Aside0.mk hD6
          have HW6 := Aside0.mk (show Ws (fun b => b = g) w w6 from
            have hb := HBW.out
            ⟨hW6.os.trans hb.os, hW6.tape.trans hb.tape, hW6.output.trans hb.output, Nat.le_trans hb.size hW6.size, fun i hi hn => (hW6.block i (Nat.lt_of_lt_of_le hi hb.size) (fun hp => by rcases hp with hp | hp; (have := HTT.out; omega); exact hn hp)).trans (hb.block i hi)⟩)
          clear hT6 hD6 hW6
          by_cases c9 : e9 = 0
          · subst c9
            have HP := Aside0.mk (HPS.out.trans (if_neg (fun h => h rfl)))
            go_wp2_with (fail)
            go_ret2
            rw [← HR.out, HP.out]
            exact ⟨_, rfl, HD6.out, HW6.out, rfl, HT6.out⟩
          · have d9 : (e9 != (0 : Int)) = true := by simpa using c9
            have d8 : (e9 == (0 : Int)) = false := by simpa using c9
            have HP := Aside0.mk (HPS.out.trans (if_pos c9))
            clear c9
            go_wp2_with (fail)
            go_ret2
            rw [← HR.out, HP.out]
            exact ⟨_, rfl, HD6.out, HW6.out, rfl⟩
        · have hd0 : dirty = true := cn.resolve_left cg
          subst hd0
          have d1 : (x0.r.gen == (0 : Int)) = false := by simpa using cg
          clear cn cg
          go_wp2_with (fail)
          refine with_w (fun w' => w'.heap[t]? = some (.cells (docCells ⟨x0.r, x0.file, x0.r.l.length⟩ (strOfNums x0.r.base) (.slice Al x0.r.l.length cl) g) 92 (0, 0)) ∧ St (fun k => G k ∨ k = t) w' (.slice Al x0.r.l.length cl) (x0.r.l.map strOfNums) ∧ IsX (fun k => G k ∨ k = t) w' g s ∧ Below w.heap.size w w') ⟨HTX0.out.1, HTX0.out.2, HDX0.out, HBX0.out⟩ ?_
          rintro wq ⟨hbx, hrl, hdx, hbw⟩
          have HBX := Aside0.mk (blk_drew hbx)
          have HLX := Aside0.mk (St.below hrl (below_drew1 (Below.refl wq.heap.size wq)))
          have HDX := Aside0.mk (IsX.below hdx (below_drew1 (Below.refl wq.heap.size wq)))
          have HBW := Aside0.mk (below_drew1 hbw)
          have HTX := Aside0.mk (show IsY (fun k => G k ∨ k = t) wq.drew t g ⟨x0.r, x0.file, x0.r.l.length⟩ from ⟨.inr rfl, _, HBX.out, HLX.out⟩)
          clear hbx hrl hdx hbw HTX0 HDX0 HBX0 hc1 hc3 hc5 hf5 HH
          replace HBX := HBX.out
          refine start_ (n := 11) (S := fun w' => w'.heap[t]? = some (.cells (docCells ⟨x0.r, x0.file, x0.r.l.length⟩ (strOfNums x0.r.base) (.slice Al x0.r.l.length cl) g) 92 (0, 0))) (ds := [9]) #[false, false, false, false, false, false, false, false, false, false, false] (by kernel_rfl) rfl rfl (HBX) (fun hHeld => ?_)
          refine pure_ (i := 0) (N := some 76) (v := ?_) (a' := ?_) #[true, false, false, false, false, false, false, false, false, false, false] rfl rfl (by kernel_rfl) (fun _ _ _ h => h) (Or.inl ⟨by rfl, ?_⟩) ?_ ?_
          rotate_left
          · intro w'
            go_simp
            with_reducible rfl
          rotate_left
          · simp only [Act.put, List.setIfInBounds_toArray, List.set_cons_zero, List.set_cons_succ, i64_w, i32_w]
            rfl
          refine pure_ (i := 1) (N := some 77) (v := ?_) (a' := ?_) #[true, true, false, false, false, false, false, false, false, false, false] rfl rfl (by kernel_rfl) (fun _ _ _ h => h) (Or.inl ⟨by rfl, ?_⟩) ?_ ?_
          rotate_left
          · intro w'
            go_simp
            with_reducible rfl
          rotate_left
          · simp only [Act.put, List.setIfInBounds_toArray, List.set_cons_zero, List.set_cons_succ, i64_w, i32_w]
            rfl
          refine pure_ (i := 2) (N := some 78) (v := ?_) (a' := ?_) #[true, true, true, false, false, false, false, false, false, false, false] rfl rfl (by kernel_rfl) (fun _ _ _ h => h) (Or.inl ⟨by rfl, ?_⟩) ?_ ?_
          rotate_left
          · intro w'
            go_simp
            with_reducible rfl
          rotate_left
          · simp only [Act.put, List.setIfInBounds_toArray, List.set_cons_zero, List.set_cons_succ, i64_w, i32_w]
            rfl
          refine pure_ (i := 3) (N := some 79) (v := ?_) (a' := ?_) #[true, true, true, true, false, false, false, false, false, false, false] rfl rfl (by kernel_rfl) (fun _ _ _ h => h) (Or.inl ⟨by rfl, ?_⟩) ?_ ?_
          rotate_left
          · intro w'
            go_simp
            with_reducible rfl
          rotate_left
          · simp only [Act.put, List.setIfInBounds_toArray, List.set_cons_zero, List.set_cons_succ, i64_w, i32_w]
            rfl
          refine pure_ (i := 5) (N := some 81) (v := ?_) (a' := ?_) #[true, true, true, true, false, true, false, false, false, false, false] rfl rfl (by kernel_rfl) (fun _ _ _ h => h) (Or.inl ⟨by rfl, ?_⟩) ?_ ?_
          rotate_left
          · intro w'
            go_simp
            with_reducible rfl
          rotate_left
          · simp only [Act.put, List.setIfInBounds_toArray, List.set_cons_zero, List.set_cons_succ, i64_w, i32_w]
            rfl
          refine pure_ (i := 6) (N := some 82) (v := ?_) (a' := ?_) #[true, true, true, true, false, true, true, false, false, false, false] rfl rfl (by kernel_rfl) (fun _ _ _ h => h) (Or.inl ⟨by rfl, ?_⟩) ?_ ?_
          rotate_left
          · intro w'
            go_simp
            with_reducible rfl
          rotate_left
          · simp only [Act.put, List.setIfInBounds_toArray, List.set_cons_zero, List.set_cons_succ, i64_w, i32_w]
            rfl
          refine pure_ (i := 7) (N := some 83) (v := ?_) (a' := ?_) #[true, true, true, true, false, true, true, true, false, false, false] rfl rfl (by kernel_rfl) (fun _ _ _ h => h) (Or.inl ⟨by rfl, ?_⟩) ?_ ?_
          rotate_left
          · intro w'
            go_simp
            with_reducible rfl
          rotate_left
          · simp only [Act.put, List.setIfInBounds_toArray, List.set_cons_zero, List.set_cons_succ, i64_w, i32_w]
            rfl
          refine take_ (i := 4) (N := some 80) (v := ?_) (a' := ?_) #[true, true, true, true, true, true, true, true, false, false, false] rfl rfl (by kernel_rfl) (fun _ _ _ h => h) (Or.inl ⟨by rfl, ?_⟩) hHeld ?_ ?_
          rotate_left
          · intro w' s0
            have d2_ := (blk_cell s0 2).trans (show _ = some (Value.string (strOfNums x0.r.base)) from rfl)
            go_simp
            with_reducible rfl
          rotate_left
          · simp only [Act.put, List.setIfInBounds_toArray, List.set_cons_zero, List.set_cons_succ, i64_w, i32_w]
            rfl
          refine take_ (i := 8) (N := some 84) (v := ?_) (a' := ?_) #[true, true, true, true, true, true, true, true, true, false, false] rfl rfl (by kernel_rfl) (fun _ _ _ h => h) (Or.inl ⟨by rfl, ?_⟩) hHeld ?_ ?_
          rotate_left
          · intro w' s0
            have d2_ := (blk_cell s0 3).trans (show _ = some (Value.slice Al x0.r.l.length cl) from rfl)
            go_simp
            with_reducible rfl
          rotate_left
          · simp only [Act.put, List.setIfInBounds_toArray, List.set_cons_zero, List.set_cons_succ, i64_w, i32_w]
            rfl
          refine last_ (i := 9) (N := some 85) #[true, true, true, true, true, true, true, true, true, true, false] rfl rfl (by kernel_rfl) (by decide) (fun K hK => ?_)
          refine goes_ Try.func49 (by kernel_rfl) rfl #[.pointer (some ⟨t, 0, none⟩), .string (strOfNums x0.r.base), .slice Al x0.r.l.length cl] (by rfl) rfl rfl (by first | rfl | (simp; done) | (simp only [List.map_toArray, List.map_cons, List.map_nil]; rfl)) ?_
          with_reducible refine (rSave_calls (fun k => G k ∨ k = t) t g ⟨x0.r, x0.file, x0.r.l.length⟩ s (.slice Al x0.r.l.length cl) x0.r.base x0.r.l _ HTX.out HDX.out HOK.out HRM.out HLX.out HSO.out HBL.out HGF.out).mono ?_
          rw [HSV.out]
          rintro e w6 ⟨rfl, hT6, hD6, hW6⟩
          refine ⟨_, rfl, ?_⟩
          refine hK.out _ _ ?_
          clear hK K
          refine norm_ (a' := ?_) ?_ ?_
          rotate_left
          · show Act.put _ (some 85) _ = _
            simp only [Act.put, List.setIfInBounds_toArray, List.set_cons_zero, List.set_cons_succ, i64_w, i32_w]
            rfl
          refine pure_ (i := 10) (N := some 13) (v := ?_) (a' := ?_) #[true, true, true, true, true, true, true, true, true, true, true] rfl rfl (by kernel_rfl) (fun _ _ _ h => h) (Or.inl ⟨by rfl, ?_⟩) ?_ ?_
          rotate_left
          · intro w'
            go_simp
            with_reducible rfl
          rotate_left
          · simp only [Act.put, List.setIfInBounds_toArray, List.set_cons_zero, List.set_cons_succ, i64_w, i32_w]
            rfl
          refine done_ (by kernel_rfl) ?_
          have HT6 := Aside0.mk hT6
          have HD6 := Aside0.mk hD6
          have HW6 := Aside0.mk (show Ws (fun b => b = g) w w6 from
            have hb := HBW.out
            ⟨hW6.os.trans hb.os, hW6.tape.trans hb.tape, hW6.output.trans hb.output, Nat.le_trans hb.size hW6.size, fun i hi hn => (hW6.block i (Nat.lt_of_lt_of_le hi hb.size) (fun hp => by rcases hp with hp | hp; (have := HTT.out; omega); exact hn hp)).trans (hb.block i hi)⟩)
          clear hT6 hD6 hW6
          by_cases c9 : e9 = 0
          · subst c9
            have HP := Aside0.mk (HPS.out.trans (if_neg (fun h => h rfl)))
            go_wp2_with (fail)
            go_ret2
            rw [← HR.out, HP.out]
            exact ⟨_, rfl, HD6.out, HW6.out, rfl, HT6.out⟩
          · have d9 : (e9 != (0 : Int)) = true := by simpa using c9
            have d8 : (e9 == (0 : Int)) = false := by simpa using c9
            have HP := Aside0.mk (HPS.out.trans (if_pos c9))
            clear c9
            go_wp2_with (fail)
            go_ret2
            rw [← HR.out, HP.out]
            exact ⟨_, rfl, HD6.out, HW6.out, rfl⟩
end Go.Proofs.Ytehjbhnlbjbhfaa.Rt
