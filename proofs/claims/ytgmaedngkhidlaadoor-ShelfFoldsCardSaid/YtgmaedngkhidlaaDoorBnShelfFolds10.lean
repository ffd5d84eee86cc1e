/- Texts that the row of LawShelfFolds rests on, part 10 of 11: contracts of the functions, their walks, plain laws. -/
import Derived.Test.YtgmaedngkhidlaaDoorBnShelfFolds9
set_option linter.unusedSimpArgs false
-- ShP
namespace Go.Proofs.YtgmaedngkhidlaaDoor.Sf
open Go Go.RowKit Go.ChangeMaps Go.MapKept Go.Proofs.YtgmaedngkhidlaaDoorW.PrintWords Go.Proofs.YtgmaedngkhidlaaDoorW.PrintLast Go.Proofs.YtgmaedngkhidlaaDoorW.PrintMore
open Go.Maps (Keyed)
set_option linter.unusedVariables false
set_option linter.unusedSimpArgs false
def foldS (s : Sh) (m : Nat) : Sh := ⟨upT s.T (s.R.take m), s.R.drop m, s.C⟩
theorem fold_in {s : Sh} {a : Int} (h1 : s.T.idx ≤ a) (h2 : a ≤ s.C) : foldP s a = (foldS s (a - s.T.idx).toNat, 0) := by
  unfold foldP
  rw [if_neg (by omega)]
  rfl
theorem foldS_last {s : Sh} {m : Nat} : lastT (foldS s m) = lastT s := by
  show upT (upT s.T (s.R.take m)) (s.R.drop m) = upT s.T s.R
  rw [← upT_append, List.take_append_drop]
theorem foldS_idx {s : Sh} (hw : Wf s) {m : Nat} (hm : m ≤ s.R.length) : (foldS s m).T.idx = s.T.idx + m := (hw.at m hm).2
theorem foldS_end {s : Sh} (hw : Wf s) {m : Nat} (hm : m ≤ s.R.length) : endI (foldS s m) = endI s := by
  show (foldS s m).T.idx + ((s.R.drop m).length : Int) = s.T.idx + _
  rw [foldS_idx hw hm, List.length_drop]
  omega
theorem foldS_com {s : Sh} (hw : Wf s) {m : Nat} (hm : m ≤ s.R.length) (hc : s.T.idx + m ≤ s.C) : comT (foldS s m) = comT s := by
  show upT (upT s.T (s.R.take m)) ((s.R.drop m).take (s.C - (foldS s m).T.idx).toNat) = upT s.T (s.R.take (s.C - s.T.idx).toNat)
  rw [foldS_idx hw hm, ← upT_append, ← List.take_add]
  congr 2
  omega
theorem known_at {s : Sh} (hw : Wf s) {j : Nat} (hj : j < s.R.length) : knownP s (s.R[j]).client (s.R[j]).seq = ((s.R[j]).ver, decide (s.T.idx + 1 + j ≤ s.C)) := by
  refine known_hit (List.getElem?_eq_getElem hj) (fun i y hi hy => ?_) (by unfold hitR; simp)
  have hm := (hw.chain j hj).seq
  have hmem : y ∈ s.R.take j := List.mem_of_getElem? (i := i) (by rw [List.getElem?_take_of_lt hi]; exact hy)
  have ht := seq_top hw j (by omega) y hmem
  unfold hitR
  by_cases e : y.client = (s.R[j]).client
  · rw [e] at ht
    have hne : ¬ y.seq = (s.R[j]).seq := by omega
    have h2 : (y.seq == (s.R[j]).seq) = false := by simpa using hne
    rw [h2, Bool.and_false]
  · have h2 : (y.client == (s.R[j]).client) = false := by simpa using e
    rw [h2, Bool.false_and]
set_option maxHeartbeats 16000000 in
set_option maxRecDepth 100000 in
theorem ShelfFolds_calls (t : Tab) (A B Q : Option Addr) (c d cq : Nat) (l : List Dq) (i : Int) (k : List Int) (w : World) (hC : kC.C w A t.cells.length t.cells) (hD : kD.C w B t.done.length t.done) (hQ_l : kQ.C w Q l.length l) (hk : ∀ x ∈ t.cells, KeyL x.key ∧ x.val.size ≤ 9223372036854775807) (hq_l : ∀ k ∈ l, QOk k) (hi : (Lit.int .i64 i).wf = true) (hkk : KeyL k) (hT : Tabs w) :
    Calls Tryd.prog 11 #[vT t.idx t.epoch A t.cells.length c B t.done.length d, .slice Q l.length cq, .int .i64 i, .agg (encK k).toArray] w fun e w' => e = .returned (.bool true) ∧ Below w.heap.size w w' := by
  have HIW := Aside0.mk (wf_range hi)
  obtain ⟨ks, hks⟩ : ∃ ks, encK k = ks := ⟨_, rfl⟩
  have HKL : Aside0 (ks.length = 8) := ⟨hks ▸ encK_len hkk.len⟩
  have HKS := Aside0.mk hks
  have HKK := Aside0.mk hkk
  rw [hks]
  clear hi hks hkk
  obtain ⟨g, hg⟩ : ∃ g, w.heap.size = g := ⟨_, rfl⟩
  obtain ⟨idx, hidx⟩ : ∃ idx, t.idx = idx := ⟨_, rfl⟩
  obtain ⟨ep, hep⟩ : ∃ ep, t.epoch = ep := ⟨_, rfl⟩
  obtain ⟨n, hn⟩ : ∃ n, t.cells.length = n := ⟨_, rfl⟩
  obtain ⟨m, hm⟩ : ∃ m, t.done.length = m := ⟨_, rfl⟩
  obtain ⟨L, hL⟩ : ∃ L, l.length = L := ⟨_, rfl⟩
  obtain ⟨w1a, hw_0⟩ : ∃ w_, w.alloc (.cells #[.int .i64 idx, .int .i64 ep, .slice A n c, .slice B m d] 25) = w_ := ⟨_, rfl⟩
  have hs_1 : w1a.heap.size = g + 1 := by rw [← hw_0]; simp [hg] <;> omega
  have hb_1 : Below w.heap.size w w1a := hw_0 ▸ below_alloc (Below.refl _ _) _
  obtain ⟨w2, hw_1⟩ : ∃ w_, w1a.alloc (.cells ks.toArray 28) = w_ := ⟨_, rfl⟩
  have hb_2 : Below w.heap.size w w2 := below_then hb_1 hb_1.size (hw_1 ▸ below_alloc (Below.refl _ _) _)
  have hR_0_1 : w1a.heap[g]? = some (.cells [.int .i64 idx, .int .i64 ep, .slice A n c, .slice B m d].toArray 25) := hg ▸ hw_0 ▸ at_alloc w _
  have hR_0_2 : w2.heap[g]? = some (.cells [.int .i64 idx, .int .i64 ep, .slice A n c, .slice B m d].toArray 25) := hw_1 ▸ under_alloc hR_0_1 _
  have hR_1_2 : w2.heap[g + 1]? = some (.cells ks.toArray 28) := hs_1 ▸ hw_1 ▸ at_alloc w1a _
  have hb2 := hb_2
  have hC2 := Kd.C_below hC hb2
  have hD2 := Kd.C_below hD hb2
  have hT2 := hT.below hb2
  have hQl := Kd.C_below hQ_l hb2
  have HSM : Aside0 (Calls Tryd.prog 12 #[vT idx ep A n c B m d] w2 fun e w' => IsB e ∧ Below w2.heap.size w2 w') := ⟨by
    have := small_calls t.idx t.epoch t.cells A B c t.done.length d w2 hC2
    rw [hidx, hep, hn, hm] at this
    exact this⟩
  have HSHT : Aside0 (∀ (w4 w5 : World) (b5 : Nat), Below w2.heap.size w2 w4 → w5.heap[b5]? = some (.cells #[.slice Q L cq] 26 (0, 0)) → Below w4.heap.size w4 w5 → Calls Tryd.prog 13 #[.slice (some ⟨b5, 0, none⟩) 1 1] w5 fun e w' => IsB e ∧ Below w5.heap.size w5 w') := ⟨fun w4 w5 b5 hb4 h5 hb5 => by
    refine (short_calls ⟨b5, 0, none⟩ 1 1 w5 (by decide) (fun i hi => ?_)).mono (fun e w' h => ⟨h.1, by obtain ⟨nd, rfl⟩ := h.2; exact pw_below_drewN (Below.refl _ _) nd⟩)
    rw [add_off, Nat.zero_add]
    rcases i with _ | i
    · exact ⟨Q, l, cq, (blk_cell h5 0).trans (by rw [hL]; rfl), Kd.C_below (Kd.C_below hQl hb4) hb5, fun x hx => ⟨(hq_l x hx).key.len, (hq_l x hx).xkey.len⟩⟩
    · omega⟩
  obtain ⟨ck, hck⟩ : ∃ ck, checkP t = ck := ⟨_, rfl⟩
  have HCHK : Aside0 (∀ w' : World, Below w2.heap.size w2 w' → Calls Tryd.prog 14 #[vT idx ep A n c B m d] w' fun e w'' => e = .returned (.int .i64 ck) ∧ Below w'.heap.size w' w'') := ⟨fun w' hb => by
    have := Check_calls t A B c d w' (Kd.C_below hC2 hb) (Kd.C_below hD2 hb) hk (hT2.below hb)
    rw [hidx, hep, hn, hm, hck] at this
    exact this⟩
  have HAW : Aside0 (∀ w' : World, Below w2.heap.size w2 w' → Calls Tryd.prog 15 #[] w' fun e w'' => e = .returned (.bool true) ∧ Below w2.heap.size w2 w'') := ⟨fun w' hb => (awake_calls w' (hT2.below hb)).mono (fun e w'' h => ⟨h.1, below_step hb h.2⟩)⟩
  have HMD : Aside0 (ck = 0 → ∀ (S0 : List (Nat × Sh)) (B0 : List (World → Prop)) (l' : List Dq) (Q' : Option Addr) (cq' : Nat) (w' : World), Fam S0 B0 w2 w' → (∀ S' w'', Fam S' B0 w2 w'' → kQ.C w'' Q' l'.length l') → (∀ k ∈ l', QOk k) → Calls Tryd.prog 16 #[vT idx ep A n c B m d, .slice Q' l'.length cq'] w' fun e w'' => ∃ p, e = .returned (.pointer (some ⟨p, 0, none⟩)) ∧ Fam ((p, madeS t l') :: S0) B0 w2 w'') := ⟨fun h0 S0 B0 l' Q' cq' w' hf hq1 hq2 => by
    have := hf.made t A B Q' c d cq' l' (Kd.C_below hC2 hf.be) (Kd.C_below hD2 hf.be) hq1 hk hq2 (check_ok.1 (hck.trans h0))
    rw [hidx, hep, hn, hm] at this
    exact this⟩
  have HQl : Aside0 (∀ w' : World, Below w2.heap.size w2 w' → kQ.C w' Q l.length l) := ⟨fun w' hb => Kd.C_below hQl hb⟩
  have HQKl := Aside0.mk hq_l
  have HMADE1 : Aside0 (ck = 0 → ∀ w' : World, Below w2.heap.size w2 w' → Calls Tryd.prog 16 #[vT idx ep A n c B m d, .slice Q L cq] w' fun e w'' => ∃ p, e = .returned (.pointer (some ⟨p, 0, none⟩)) ∧ Fam [(p, madeS t l)] [] w2 w'') := ⟨fun h0 w' hb => hL ▸ HMD.out h0 [] [] l Q cq w' (Fam.empty hb hT2) (fun S' w'' hf => Kd.C_below hQl hf.be) hq_l⟩
  rw [hidx, hep, hn, hm, hL]
  have HT2 := Aside0.mk hT2
  have HLENL := Aside0.mk hL
  have HW_0 := Aside0.mk hw_0
  have HW_1 := Aside0.mk hw_1
  have HB := Aside0.mk hb2
  have HR := Aside0.mk hR_0_2
  have HR_1 := Aside0.mk hR_1_2
  clear hw_0 hw_1 hs_1 hb_1 hb_2 hR_0_1 hR_0_2 hR_1_2 hb2 hC2 hD2 hT2 hC hD hk hT hck hidx hep hn hm hQl hQ_l hq_l hL
  by_cases c0 : ck = 0
  case neg =>
    as_aux_lemma =>
      have d0 : (ck != 0) = true := by simpa using c0
      clear HMD HMADE1 c0
      go_enter Tryd.func11, Tryd.ntmps11
      go_upto_region 1 with (fail)
      rw [HW_0.out, HW_1.out]
      go_wp2_with (first
          | ((with_reducible refine gate_dst (N := 26) rfl ?_); go_must (refine wpList_seg (P := Tryd.prog) rfl 25 (.tmp 4) rfl g 0 rfl [.int .i64 idx, .int .i64 ep, .slice A n c, .slice B m d] aggTb (SegAt.blk (t := 25) (fr := (0, 0)) HR.out) ?_))
          | (go_at_call 12; refine HSM.out.mono ?_; rintro e w3 ⟨⟨⟨bb, rfl⟩⟩, hb3⟩; have HB3 := Aside0.mk hb3; clear hb3; cases bb)
          | ((with_reducible refine gate_dst (N := 31) rfl ?_); refine gate_guard (by rfl) ?_; obtain ⟨b5, w5, hr5, ha5, hb5⟩ := lit_one w3 Q L cq; have HA5 := Aside0.mk ha5; have HC5 := Aside0.mk hb5; have HB5 := Aside0.mk (below_step HB3.out hb5); go_must (refine Kd.event_run rfl (exec_lit1 (P := Tryd.prog) 93 (.tmp 30) rfl rfl hr5) ?_); clear hr5 ha5 hb5)
          | (go_at_call 13; refine (HSHT.out w3 w5 b5 HB3.out HA5.out HC5.out).mono ?_; rintro e w6 ⟨⟨⟨bc, rfl⟩⟩, hb6⟩; have HB6 := Aside0.mk (below_step HB5.out hb6); clear hb6; cases bc)
          | ((with_reducible refine gate_dst (N := 36) rfl ?_); refine gate_guard (by rfl) ?_; go_must (refine wpList_seg (P := Tryd.prog) rfl 25 (.tmp 4) rfl g 0 rfl [.int .i64 idx, .int .i64 ep, .slice A n c, .slice B m d] aggTb (SegAt.blk (t := 25) (fr := (0, 0)) (blk_below HR.out HB6.out)) ?_))
          | (go_at_call 14; refine (HCHK.out w6 HB6.out).mono ?_; rintro e w7 ⟨rfl, hb7⟩; have HB7 := Aside0.mk (below_step HB6.out hb7); clear hb7)
          | (go_at_call 15; refine (HAW.out _ HB7.out).mono ?_; rintro e w9 ⟨rfl, hb9⟩)
          | (go_at_call 15; refine (HAW.out _ HB6.out).mono ?_; rintro e w9 ⟨rfl, hb9⟩)
          | (go_at_call 15; refine (HAW.out _ HB3.out).mono ?_; rintro e w9 ⟨rfl, hb9⟩))
      all_goals go_ret
      all_goals exact ⟨rfl, by first | exact below_then HB.out HB.out.size hb9 | exact hg ▸ below_then HB.out HB.out.size hb9⟩
  have d0 : (ck != 0) = false := by simpa using c0
  have HM2 := Aside0.mk (HMD.out c0)
  have HM1 := Aside0.mk (HMADE1.out c0)
  clear HMD HMADE1 c0
  go_enter Tryd.func11, Tryd.ntmps11
  go_upto_region 1 with (fail)
  rw [HW_0.out, HW_1.out]
  go_upto_region 3 with (first
          | ((with_reducible refine gate_dst (N := 26) rfl ?_); go_must (refine wpList_seg (P := Tryd.prog) rfl 25 (.tmp 4) rfl g 0 rfl [.int .i64 idx, .int .i64 ep, .slice A n c, .slice B m d] aggTb (SegAt.blk (t := 25) (fr := (0, 0)) HR.out) ?_))
          | (go_at_call 12; refine HSM.out.mono ?_; rintro e w3 ⟨⟨⟨bb, rfl⟩⟩, hb3⟩; have HB3 := Aside0.mk hb3; clear hb3; cases bb)
          | ((with_reducible refine gate_dst (N := 31) rfl ?_); refine gate_guard (by rfl) ?_; obtain ⟨b5, w5, hr5, ha5, hb5⟩ := lit_one w3 Q L cq; have HA5 := Aside0.mk ha5; have HC5 := Aside0.mk hb5; have HB5 := Aside0.mk (below_step HB3.out hb5); go_must (refine Kd.event_run rfl (exec_lit1 (P := Tryd.prog) 93 (.tmp 30) rfl rfl hr5) ?_); clear hr5 ha5 hb5)
          | (go_at_call 13; refine (HSHT.out w3 w5 b5 HB3.out HA5.out HC5.out).mono ?_; rintro e w6 ⟨⟨⟨bc, rfl⟩⟩, hb6⟩; have HB6 := Aside0.mk (below_step HB5.out hb6); clear hb6; cases bc)
          | ((with_reducible refine gate_dst (N := 36) rfl ?_); refine gate_guard (by rfl) ?_; go_must (refine wpList_seg (P := Tryd.prog) rfl 25 (.tmp 4) rfl g 0 rfl [.int .i64 idx, .int .i64 ep, .slice A n c, .slice B m d] aggTb (SegAt.blk (t := 25) (fr := (0, 0)) (blk_below HR.out HB6.out)) ?_))
          | (go_at_call 14; refine (HCHK.out w6 HB6.out).mono ?_; rintro e w7 ⟨rfl, hb7⟩; have HB7 := Aside0.mk (below_step HB6.out hb7); clear hb7)
          | (go_at_call 15; refine (HAW.out _ HB6.out).mono ?_; rintro e w9 ⟨rfl, hb9⟩)
          | (go_at_call 15; refine (HAW.out _ HB3.out).mono ?_; rintro e w9 ⟨rfl, hb9⟩))
  · go_ret
    exact ⟨rfl, by first | exact below_then HB.out HB.out.size hb9 | exact hg ▸ below_then HB.out HB.out.size hb9⟩
  · go_ret
    exact ⟨rfl, by first | exact below_then HB.out HB.out.size hb9 | exact hg ▸ below_then HB.out HB.out.size hb9⟩
  clear HSM HSHT HCHK HA5 HB5 HC5 HB6 HB3 d0 HW_0 HW_1
  go_upto_region 4 with (first
      | ((with_reducible refine gate_dst (N := 41) rfl ?_); go_must (refine wpList_seg (P := Tryd.prog) rfl 25 (.tmp 4) rfl g 0 rfl [.int .i64 idx, .int .i64 ep, .slice A n c, .slice B m d] aggTb (SegAt.blk (t := 25) (fr := (0, 0)) (blk_below HR.out HB7.out)) ?_))
      | (go_at_call 16; refine (HM1.out w7 HB7.out).mono ?_; rintro e w8 ⟨p, rfl, hf8⟩; have HF8 := Aside0.mk hf8; clear hf8))
  obtain ⟨s, hs⟩ : ∃ s, madeS t l = s := ⟨_, rfl⟩
  rw [hs] at HF8
  have HS := Aside0.mk hs
  clear hs HM1 HB7
  have HWK := Aside0.mk (HF8.out.wfd (p := p) (s := s) (by simp))
  obtain ⟨cm, hcm⟩ : ∃ cm, s.C = cm := ⟨_, rfl⟩
  obtain ⟨lo, hlo⟩ : ∃ lo, s.T.idx = lo := ⟨_, rfl⟩
  obtain ⟨dd, hdd⟩ : ∃ dd, cm - lo = dd := ⟨_, rfl⟩
  obtain ⟨d1, hd1⟩ : ∃ d1, dd + 1 = d1 := ⟨_, rfl⟩
  obtain ⟨am, ham⟩ : ∃ am, lo + i % 18446744073709551616 % d1 = am := ⟨_, rfl⟩
  have hcr : 0 ≤ lo ∧ lo ≤ 1099511627900 ∧ 0 ≤ dd ∧ dd ≤ 24 := by
    have h1 := HWK.out.1.lo; have h2 := HWK.out.1.hi; have h3 := HWK.out.1.len; have h4 := HWK.out.1.tab.idx
    unfold endI at *
    omega
  have hmr : 0 ≤ i % 18446744073709551616 % d1 ∧ i % 18446744073709551616 % d1 < d1 := ⟨Int.emod_nonneg _ (by omega), Int.emod_lt_of_pos _ (by omega)⟩
  have HAM : Aside0 (s.T.idx ≤ am ∧ am ≤ s.C) := ⟨by omega⟩
  have hw0 : wrap64 (cm - lo) = dd := by unfold wrap64; omega
  have hw1 : wrap64 (dd + 1) = d1 := by unfold wrap64; omega
  have hw2 : IntKind.u64.wrap d1 = d1 := by rw [u64_wrap]; omega
  have hw3 : (d1 == 0) = false := by simp; omega
  have hw3' : ¬ d1 = 0 := by omega
  have hwE : Aside0 (wrap64 (lo + wrap64 ((IntKind.u64.wrap i).tmod d1)) = am) := ⟨by
    rw [u64_mod i d1 (by omega), ← ham]
    unfold wrap64
    omega⟩
  obtain ⟨m, hm⟩ : ∃ m, (am - s.T.idx).toNat = m := ⟨_, rfl⟩
  have HMM : Aside0 (m ≤ s.R.length ∧ s.T.idx + m = am ∧ s.R.length ≤ 24) := ⟨by
    have h1 := HAM.out; have h3 := HWK.out.1.len; have h2 := HWK.out.1.hi
    unfold endI at h2
    omega⟩
  obtain ⟨s1, hs1⟩ : ∃ s1, foldS s m = s1 := ⟨_, rfl⟩
  obtain ⟨r, hr⟩ : ∃ r, s.R.drop m = r := ⟨_, rfl⟩
  obtain ⟨n9, hn9⟩ : ∃ n9, r.length = n9 := ⟨_, rfl⟩
  have HS1 : Aside0 (s1.T.idx = am ∧ s1.R = r ∧ s1.C = s.C ∧ endI s1 = endI s ∧ lastT s1 = lastT s ∧ comT s1 = comT s) := ⟨by
    subst hs1
    exact ⟨(foldS_idx HWK.out.1 HMM.out.1).trans HMM.out.2.1, hr, rfl, foldS_end HWK.out.1 HMM.out.1, foldS_last, foldS_com HWK.out.1 HMM.out.1 (by have := HMM.out; have := HAM.out; omega)⟩⟩
  have HFO : Aside0 (foldP s am = (s1, 0)) := ⟨by rw [fold_in HAM.out.1 HAM.out.2, hm, hs1]⟩
  have HW1 : Aside0 (Wf s1 ∧ Ky s1) := ⟨by
    have h1 := HWK.out.1.fold am
    have h2 := HWK.out.2.fold am
    rw [HFO.out] at h1 h2
    exact ⟨h1, h2⟩⟩
  have HNR : Aside0 (n9 + m = s.R.length) := ⟨by have := HMM.out; rw [← hn9, ← hr, List.length_drop]; omega⟩
  have HN9 := Aside0.mk hn9
  have HHc := Aside0.mk hcm
  have HHl := Aside0.mk hlo
  have HRJ : Aside0 (∀ j (h : j < r.length), KeyL (r[j]).key ∧ (Lit.int .i64 (r[j]).client).wf = true ∧ ∃ b, knownP s (r[j]).client (r[j]).seq = ((r[j]).ver, b) ∧ knownP s1 (r[j]).client (r[j]).seq = ((r[j]).ver, b)) := ⟨fun j h => by
    have h' : m + j < s.R.length := by have := HNR.out; omega
    have e : r[j] = s.R[m + j] := by subst hr; rw [List.getElem_drop]
    have h'' : j < s1.R.length := by rw [HS1.out.2.1]; exact h
    have e2 : s1.R[j] = r[j] := by simp only [HS1.out.2.1]
    refine ⟨e ▸ HWK.out.2.rc _ (List.getElem_mem _), e ▸ (HWK.out.1.chain (m + j) h').wf, decide (s.T.idx + 1 + ((m + j : Nat) : Int) ≤ s.C), ?_, ?_⟩
    · rw [e]; exact known_at HWK.out.1 h'
    · have := known_at HW1.out.1 h''
      rw [e2] at this
      rw [this, HS1.out.1, HS1.out.2.2.1]
      have := HMM.out
      congr 2
      apply propext
      constructor <;> intro <;> push_cast at * <;> omega⟩
  have HKR : Aside0 (∀ x ∈ r, KeyL x.key) := ⟨fun x hx => HWK.out.2.rc x (List.mem_of_mem_drop (hr ▸ hx))⟩
  have HCL : Aside0 (Calls Tryd.prog 38 #[.pointer (some ⟨p, 0, none⟩)] w8 fun e w' => ∃ q, e = .returned (.pointer (some ⟨q, 0, none⟩)) ∧ Fam [(q, s), (p, s)] [] w2 w') := ⟨(HF8.out.clone (p := p) (s := s) (by simp)).mono (fun e w' ⟨q, h1, h2, _⟩ => ⟨q, h1, h2⟩)⟩
  have HCM : Aside0 (∀ (w' : World) (S : List (Nat × Sh)) (B : List (World → Prop)), (p, s) ∈ S → Fam S B w2 w' → Calls Tryd.prog 30 #[.pointer (some ⟨p, 0, none⟩)] w' fun e w'' => e = .returned (.int .i64 cm) ∧ w' = w'') := ⟨fun w' S B hm hf => hcm ▸ hf.commit hm⟩
  have HLO : Aside0 (∀ (w' : World) (S : List (Nat × Sh)) (B : List (World → Prop)), (p, s) ∈ S → Fam S B w2 w' → Calls Tryd.prog 20 #[.pointer (some ⟨p, 0, none⟩)] w' fun e w'' => e = .returned (.int .i64 lo) ∧ w' = w'') := ⟨fun w' S B hm hf => hlo ▸ hf.low hm⟩
  have HLO1 : Aside0 (∀ (w' : World) (S : List (Nat × Sh)) (B : List (World → Prop)), (p, s1) ∈ S → Fam S B w2 w' → Calls Tryd.prog 20 #[.pointer (some ⟨p, 0, none⟩)] w' fun e w'' => e = .returned (.int .i64 am) ∧ w' = w'') := ⟨fun w' S B hm hf => HS1.out.1 ▸ hf.low hm⟩
  have HFD : Aside0 (∀ (w' : World) (q : Nat) (B : List (World → Prop)), Fam [(q, s), (p, s)] B w2 w' → Calls Tryd.prog 44 #[.pointer (some ⟨p, 0, none⟩), .int .i64 am] w' fun e w'' => e = .returned (.int .i64 0) ∧ Fam [(q, s), (p, s1)] B w2 w'') := ⟨fun w' q B hf => by
    have := hf.fold (S1 := [(q, s)]) (S2 := []) am
    rw [HFO.out] at this
    exact this⟩
  have HBP : Aside0 (∀ (w' : World) (S : List (Nat × Sh)) (B : List (World → Prop)), (p, s1) ∈ S → Fam S B w2 w' → Calls Tryd.prog 19 #[.pointer (some ⟨p, 0, none⟩), .int .i64 am, .int .i64 99] w' fun e w'' => ∃ A c, e = .returned (.tuple #[.slice A n9 c, .bool true]) ∧ Fam S (rowP A n9 r :: B) w2 w'') := ⟨fun w' S B hm hf => by
    have := hf.behind hm s1.T.idx 99
    rw [behind_all HW1.out.1] at this
    dsimp only at this
    rw [HS1.out.1, HS1.out.2.1, hn9] at this
    exact this.mono (fun e w'' ⟨A, c, h1, h2, _⟩ => ⟨A, c, h1, h2⟩)⟩
  have HBQ : Aside0 (∀ (w' : World) (q : Nat) (S : List (Nat × Sh)) (B : List (World → Prop)), (q, s) ∈ S → Fam S B w2 w' → Calls Tryd.prog 19 #[.pointer (some ⟨q, 0, none⟩), .int .i64 am, .int .i64 99] w' fun e w'' => ∃ A c, e = .returned (.tuple #[.slice A n9 c, .bool true]) ∧ Fam S (rowP A n9 r :: B) w2 w'') := ⟨fun w' q S B hm hf => by
    have := hf.behind hm am 99
    have hb : behindP s am 99 = (r, true) := by
      have h1 := HAM.out; have h2 := HWK.out.1.hi
      unfold behindP
      rw [if_neg (by omega), show (am - s.T.idx).toNat = m by have := HMM.out; omega, hr]
      show (r.take 99, true) = _
      rw [List.take_of_length_le (by have := HNR.out; have := HMM.out; omega)]
    rw [hb] at this
    dsimp only at this
    rw [hn9] at this
    exact this.mono (fun e w'' ⟨A, c, h1, h2, _⟩ => ⟨A, c, h1, h2⟩)⟩
  obtain ⟨en, hen⟩ : ∃ en, endI s = en := ⟨_, rfl⟩
  obtain ⟨le, hle⟩ : ∃ le, (lastT s).epoch = le := ⟨_, rfl⟩
  have HLP : Aside0 (∀ (w' : World) (S : List (Nat × Sh)) (B : List (World → Prop)), (p, s1) ∈ S → Fam S B w2 w' → Calls Tryd.prog 35 #[.pointer (some ⟨p, 0, none⟩)] w' fun e w'' => e = .returned (.tuple #[.int .i64 en, .int .i64 le]) ∧ Fam S B w2 w'') := ⟨fun w' S B hm hf => by
    have := hf.last hm
    rw [HS1.out.2.2.2.1, HS1.out.2.2.2.2.1, hen, hle] at this
    exact this.mono (fun e w'' h => ⟨h.1, h.2.1⟩)⟩
  have HLQ : Aside0 (∀ (w' : World) (q : Nat) (S : List (Nat × Sh)) (B : List (World → Prop)), (q, s) ∈ S → Fam S B w2 w' → Calls Tryd.prog 35 #[.pointer (some ⟨q, 0, none⟩)] w' fun e w'' => e = .returned (.tuple #[.int .i64 en, .int .i64 le]) ∧ Fam S B w2 w'') := ⟨fun w' q S B hm hf => by
    have := hf.last hm
    rw [hen, hle] at this
    exact this.mono (fun e w'' h => ⟨h.1, h.2.1⟩)⟩
  clear hcr hmr hd1 ham hdd hcm hlo hm hs1 hr hn9 hen hle HFO
  go_upto_region 5 with (go_at_call 38; refine HCL.out.mono ?_; rintro e w9 ⟨q, rfl, hf9⟩; have HF9 := Aside0.mk hf9; clear hf9)
  go_upto_region 6 with (first
    | (go_at_call 30; refine (HCM.out w9 _ _ (by simp) HF9.out).mono ?_; rintro e w' ⟨rfl, rfl⟩)
    | (go_at_call 20; refine (HLO.out w9 _ _ (by simp) HF9.out).mono ?_; rintro e w' ⟨rfl, rfl⟩))
  rw [hwE.out]
  have haa : (am != am) = false := by simp
  go_upto_region 8 with (first
    | (go_at_call 44; refine (HFD.out w9 q _ HF9.out).mono ?_; rintro e w10 ⟨rfl, hf10⟩; have HF10 := Aside0.mk hf10; clear hf10)
    | (go_at_call 20; refine (HLO1.out w10 _ _ (by simp) HF10.out).mono ?_; rintro e w' ⟨rfl, rfl⟩))
  clear HF8 HF9 HCL HCM HLO HLO1 HFD hw0 hw1 hw2 hw3 hw3' hwE haa
  go_upto_region 9 with (go_at_call 35; refine (HLP.out w10 _ _ (by simp) HF10.out).mono ?_; rintro e w11 ⟨rfl, hf11⟩; have HF11 := Aside0.mk hf11; clear hf11)
  go_upto_region 10 with (go_at_call 35; refine (HLQ.out w11 q _ _ (by simp) HF11.out).mono ?_; rintro e w12 ⟨rfl, hf12⟩; have HF12 := Aside0.mk hf12; clear hf12)
  go_upto_region 11 with (go_at_call 19; refine (HBP.out w12 _ _ (by simp) HF12.out).mono ?_; rintro e w13 ⟨A1, c1, rfl, hf13⟩; have HF13 := Aside0.mk hf13; clear hf13)
  go_upto_region 12 with (go_at_call 19; refine (HBQ.out w13 q _ _ (by simp) HF13.out).mono ?_; rintro e w14 ⟨A2, c2, rfl, hf14⟩; have HF14 := Aside0.mk hf14; clear hf14)
  clear HF10 HF11 HF12 HF13 HLP HLQ HBP HBQ
  obtain ⟨I, hI⟩ : ∃ I : World → Prop, Fam [(q, s), (p, s1)] [rowP A2 n9 r, rowP A1 n9 r] w2 = I := ⟨_, rfl⟩
  have hP : ∀ w', I w' → Fam [(q, s), (p, s1)] [rowP A2 n9 r, rowP A1 n9 r] w2 w' := fun w' h => hI ▸ h
  have HI14 : Aside0 (I w14) := ⟨hI ▸ HF14.out⟩
  have HPI := Aside0.mk hP
  have HIB : Aside0 (∀ w' w'' : World, I w' → Below w'.heap.size w' w'' → I w'') := ⟨fun w' w'' h hb => hI ▸ (hP w' h).below hb⟩
  have HKP : Aside0 (∀ (w' : World) (x : Rc) (j : Nat) (hj : j < r.length) (b : Bool), r[j] = x → knownP s1 x.client x.seq = (x.ver, b) → I w' → Calls Tryd.prog 22 #[.pointer (some ⟨p, 0, none⟩), .agg #[.int .i64 x.client, .int .i64 x.seq]] w' fun e w'' => e = .returned (.tuple #[.int .i64 x.ver, .bool b]) ∧ I w'') := ⟨fun w' x j hj b hx hb h => by
    have := (hP w' h).known (p := p) (s := s1) (by simp) x.client x.seq (hx ▸ (HRJ.out j hj).2.1)
    rw [hb] at this
    exact this.mono (fun e w'' h => ⟨h.1, hI ▸ h.2.1⟩)⟩
  have HKQ : Aside0 (∀ (w' : World) (x : Rc) (j : Nat) (hj : j < r.length) (b : Bool), r[j] = x → knownP s x.client x.seq = (x.ver, b) → I w' → Calls Tryd.prog 22 #[.pointer (some ⟨q, 0, none⟩), .agg #[.int .i64 x.client, .int .i64 x.seq]] w' fun e w'' => e = .returned (.tuple #[.int .i64 x.ver, .bool b]) ∧ I w'' ∧ Below w'.heap.size w' w'') := ⟨fun w' x j hj b hx hb h => by
    have := (hP w' h).known (p := q) (s := s) (by simp) x.client x.seq (hx ▸ (HRJ.out j hj).2.1)
    rw [hb] at this
    exact this.mono (fun e w'' h => ⟨h.1, hI ▸ h.2.1, h.2.2⟩)⟩
  have HKP2 : Aside0 (∀ (w' : World) (x : Rc) (j : Nat) (hj : j < r.length) (b : Bool), r[j] = x → knownP s1 x.client x.seq = (x.ver, b) → I w' → Calls Tryd.prog 22 #[.pointer (some ⟨p, 0, none⟩), .agg #[.int .i64 x.client, .int .i64 x.seq]] w' fun e w'' => e = .returned (.tuple #[.int .i64 x.ver, .bool b]) ∧ I w'' ∧ Below w'.heap.size w' w'') := ⟨fun w' x j hj b hx hb h => by
    have := (hP w' h).known (p := p) (s := s1) (by simp) x.client x.seq (hx ▸ (HRJ.out j hj).2.1)
    rw [hb] at this
    exact this.mono (fun e w'' h => ⟨h.1, hI ▸ h.2.1, h.2.2⟩)⟩
  have HIA : Aside0 (∀ w' : World, I w' → Below w2.heap.size w2 w') := ⟨fun w' h => (hP w' h).be⟩
  have HIC : Aside0 (∀ w' : World, I w' → kR.C w' A1 n9 r) := ⟨fun w' h => (hP w' h).get (P := rowP A1 n9 r) (by simp)⟩
  clear HF14 HKP
  have HHI := Aside0.mk hI
  clear hP hI
  go_upto_region 13 with (fail)
  go_loopw [94] (fun v94 wr => ∃ j : Nat, j ≤ n9 ∧ v94 = .int .i64 (j : Int) ∧ Aside0 (I wr)) (fun v94 _ => n9 - (intOf v94).toNat)
  case atStart => exact ⟨0, Nat.zero_le _, rfl, ⟨HI14.out⟩⟩
  case round =>
    obtain ⟨j, hj, rfl, HIr⟩ := hrel
    by_cases e1 : j < n9
    · as_aux_lemma =>
        have e1' : decide ((j : Int) < (n9 : Int)) = true := decide_eq_true (by omega)
        have hjl : j < r.length := by rw [HN9.out]; exact e1
        have HWJ : Aside0 (wrap64 ((j : Int) + 1) = (j : Int) + 1) := ⟨by have := HMM.out; have := HNR.out; unfold wrap64; omega⟩
        obtain ⟨ad, hA, hkl, hcell⟩ := C_atR (HIC.out wr HIr.out) j hjl
        subst hA
        obtain ⟨_, _, kb, hk1, hk2⟩ := HRJ.out j hjl
        obtain ⟨x, hx⟩ : ∃ x, r[j] = x := ⟨_, rfl⟩
        obtain ⟨xs, hxs⟩ : ∃ xs, encR x = xs := ⟨_, rfl⟩
        rw [hx] at hkl hcell hk1 hk2
        rw [hxs] at hcell
        have HCell : Aside0 (∀ q v, xs[q]? = some v → wr.cell? ((ad.add (j * 14)).add q) = some v) := ⟨hcell⟩
        have HLX : Aside0 (xs.length = 14) := ⟨hxs ▸ encR_len hkl⟩
        have HX1 : Aside0 (∀ v ∈ xs, v.oneCell' = true) := ⟨hxs ▸ encR_one _⟩
        have HXJ := Aside0.mk hx
        have HK1 := Aside0.mk hk1
        have HK2 := Aside0.mk hk2
        have HRQ : Aside0 (∀ (w' : World) (b : Nat), w'.heap[b]? = some (.cells xs.toArray 32 (0, 0)) → SegAt w' b 12 [.int .i64 x.client, .int .i64 x.seq]) := ⟨fun w' b h => segQ (f := fun j => w'.cell? ⟨b, j, none⟩) (recAt (f := fun j => w'.cell? ⟨b, j, none⟩) hkl (hxs ▸ blk_get h))⟩
        clear hkl hcell hxs hx hk1 hk2
        go_upto_region 15 with (first
          | ((with_reducible refine gate_dst (N := 97) rfl ?_); go_must (refine wpList_at (P := Tryd.prog) rfl 32 (.tmp 96) rfl (ad.add (j * 14)) rfl xs (by rw [HLX.out]; exact aggR) HCell.out ?_))
          | ((with_reducible refine gate_ (.store 32 (.tmp 21) (.tmp 97)) rfl ?_); go_must (refine wpList_fill (P := Tryd.prog) rfl 32 (.tmp 21) (.tmp 97) rfl xs _ rfl rfl (by rw [HLX.out]; exact aggR) (by rw [HLX.out]; rfl) HX1.out ?_)))
        obtain ⟨w15, hw15⟩ : ∃ w15, wr.alloc (.cells xs.toArray 32) = w15 := ⟨_, rfl⟩
        have HI15 := Aside0.mk (HIB.out _ _ HIr.out (hw15 ▸ below_alloc (Below.refl _ _) _))
        have HA15 := Aside0.mk (show w15.heap[wr.heap.size]? = some (.cells xs.toArray 32) from hw15 ▸ at_alloc wr _)
        rw [hw15]
        obtain ⟨b, hbb⟩ : ∃ b, wr.heap.size = b := ⟨_, rfl⟩
        rw [hbb] at HA15 ⊢
        clear hw15 hbb HIr
        go_upto_region 16 with (first
          | ((with_reducible refine gate_dst (N := 101) rfl ?_); go_must (refine wpList_seg (P := Tryd.prog) rfl 30 (.tmp 100) rfl b 12 rfl [.int .i64 x.client, .int .i64 x.seq] aggQ (HRQ.out w15 b HA15.out) ?_))
          | (go_at_call 22; refine (HKP2.out w15 x j hjl kb HXJ.out HK2.out HI15.out).mono ?_; rintro e w16 ⟨rfl, hi16, hb16⟩; have HI16 := Aside0.mk hi16; have HA16 := Aside0.mk (blk_below HA15.out hb16); clear hi16 hb16))
        go_upto_region 17 with (first
          | ((with_reducible refine gate_dst (N := 108) rfl ?_); go_must (refine wpList_seg (P := Tryd.prog) rfl 30 (.tmp 107) rfl b 12 rfl [.int .i64 x.client, .int .i64 x.seq] aggQ (HRQ.out w16 b HA16.out) ?_))
          | (go_at_call 22; refine (HKQ.out w16 x j hjl kb HXJ.out HK1.out HI16.out).mono ?_; rintro e w17 ⟨rfl, hi17, _⟩; have HI17 := Aside0.mk hi17; clear hi17))
        have hv1 : (x.ver != x.ver) = false := by simp
        have hb1 : (kb != kb) = false := by simp
        go_wp2_with (fail)
        rw [HWJ.out]
        exact ⟨⟨j + 1, by omega, by push_cast; rfl, ⟨HI17.out⟩⟩, by simp [intOf]; omega⟩
    · as_aux_lemma =>
        have e1' : decide ((j : Int) < (n9 : Int)) = false := decide_eq_false (by omega)
        have hI := HHI.out
        have hP := HPI.out
        obtain ⟨dt, hdt⟩ : ∃ dt, endI s - s.C = dt := ⟨_, rfl⟩
        obtain ⟨cc, hcc⟩ : ∃ cc, cleanP s k = cc := ⟨_, rfl⟩
        obtain ⟨tt, htt⟩ : ∃ tt, lookC (lastT s).cells k = tt := ⟨_, rfl⟩
        have hcc2 : cleanP s1 k = cc := by rw [clean_com HW1.out.1, HS1.out.2.2.2.2.2, ← clean_com HWK.out.1, hcc]
        have hcck : KeyL cc.key := by rw [← hcc, clean_com HWK.out.1]; exact lookC_key HKK.out
        have httk : KeyL tt.key := by rw [← htt]; exact lookC_key HKK.out
        obtain ⟨cs, hcs⟩ : ∃ cs, encC cc = cs := ⟨_, rfl⟩
        obtain ⟨es, hes⟩ : ∃ es, encC tt = es := ⟨_, rfl⟩
        obtain ⟨a, ha⟩ : ∃ a, comT s = a := ⟨_, rfl⟩
        have ha1 : comT s1 = a := HS1.out.2.2.2.2.2.trans ha
        have HACK : Aside0 (∀ x ∈ a.cells, KeyL x.key) := ⟨ha ▸ com_keys HWK.out.2⟩
        have HCP : Aside0 (∀ w' : World, I w' → Calls Tryd.prog 30 #[.pointer (some ⟨p, 0, none⟩)] w' fun e w'' => e = .returned (.int .i64 cm) ∧ I w'') := ⟨fun w' h => by
          have := (hP w' h).commit (p := p) (s := s1) (by simp)
          rw [HS1.out.2.2.1, HHc.out] at this
          exact this.mono (fun e w'' x => ⟨x.1, x.2 ▸ h⟩)⟩
        have HCQ : Aside0 (∀ w' : World, I w' → Calls Tryd.prog 30 #[.pointer (some ⟨q, 0, none⟩)] w' fun e w'' => e = .returned (.int .i64 cm) ∧ I w'') := ⟨fun w' h => by
          have := (hP w' h).commit (p := q) (s := s) (by simp)
          rw [HHc.out] at this
          exact this.mono (fun e w'' x => ⟨x.1, x.2 ▸ h⟩)⟩
        have HDP : Aside0 (∀ w' : World, I w' → Calls Tryd.prog 36 #[.pointer (some ⟨p, 0, none⟩)] w' fun e w'' => e = .returned (.int .i64 dt) ∧ I w'') := ⟨fun w' h' => by have := ((hP w' h').dirty (p := p) (s := s1) (by simp)).mono (fun e w'' h => (⟨h.1, hI ▸ h.2.1⟩ : _ ∧ I w'')); rw [HS1.out.2.2.2.1, HS1.out.2.2.1, hdt] at this; exact this⟩
        have HDQ : Aside0 (∀ w' : World, I w' → Calls Tryd.prog 36 #[.pointer (some ⟨q, 0, none⟩)] w' fun e w'' => e = .returned (.int .i64 dt) ∧ I w'') := ⟨fun w' h' => by have := ((hP w' h').dirty (p := q) (s := s) (by simp)).mono (fun e w'' h => (⟨h.1, hI ▸ h.2.1⟩ : _ ∧ I w'')); rw [hdt] at this; exact this⟩
        have HNP : Aside0 (∀ w' : World, I w' → Calls Tryd.prog 37 #[.pointer (some ⟨p, 0, none⟩), .agg ks.toArray] w' fun e w'' => e = .returned (.agg cs.toArray) ∧ I w'') := ⟨fun w' h' => by have := ((hP w' h').clean (p := p) (s := s1) (by simp) k HKK.out).mono (fun e w'' h => (⟨h.1, hI ▸ h.2.1⟩ : _ ∧ I w'')); rw [vK, vC, HKS.out, hcc2, hcs] at this; exact this⟩
        have HNQ : Aside0 (∀ w' : World, I w' → Calls Tryd.prog 37 #[.pointer (some ⟨q, 0, none⟩), .agg ks.toArray] w' fun e w'' => e = .returned (.agg cs.toArray) ∧ I w'') := ⟨fun w' h' => by have := ((hP w' h').clean (p := q) (s := s) (by simp) k HKK.out).mono (fun e w'' h => (⟨h.1, hI ▸ h.2.1⟩ : _ ∧ I w'')); rw [vK, vC, HKS.out, hcc, hcs] at this; exact this⟩
        have HPP : Aside0 (∀ w' : World, I w' → Calls Tryd.prog 18 #[.pointer (some ⟨p, 0, none⟩), .agg ks.toArray] w' fun e w'' => e = .returned (.agg es.toArray) ∧ I w'') := ⟨fun w' h' => by have := ((hP w' h').top (p := p) (s := s1) (by simp) k HKK.out).mono (fun e w'' h => (⟨h.1, hI ▸ h.2.1⟩ : _ ∧ I w'')); rw [vK, vC, HKS.out, HS1.out.2.2.2.2.1, htt, hes] at this; exact this⟩
        have HPQ : Aside0 (∀ w' : World, I w' → Calls Tryd.prog 18 #[.pointer (some ⟨q, 0, none⟩), .agg ks.toArray] w' fun e w'' => e = .returned (.agg es.toArray) ∧ I w'') := ⟨fun w' h' => by have := ((hP w' h').top (p := q) (s := s) (by simp) k HKK.out).mono (fun e w'' h => (⟨h.1, hI ▸ h.2.1⟩ : _ ∧ I w'')); rw [vK, vC, HKS.out, htt, hes] at this; exact this⟩
        have HSR : Aside0 (∀ w' : World, I w' → Calls Tryd.prog 39 #[.slice A1 n9 c1, .slice A2 n9 c2] w' fun e w'' => e = .returned (.bool true) ∧ I w'') := ⟨fun w' h => by
          have h1 : kR.C w' A1 n9 r := (hP w' h).get (P := rowP A1 n9 r) (by simp)
          have h2 : kR.C w' A2 n9 r := (hP w' h).get (P := rowP A2 n9 r) (by simp)
          rw [← HN9.out] at h1 h2
          have := SameR_calls A1 A2 c1 c2 r w' h1 h2 (by have := HMM.out; have := HNR.out; have := HN9.out; omega) HKR.out
          rw [HN9.out] at this
          exact this.mono (fun e w'' x => ⟨x.1, hI ▸ (hP w' h).below x.2.below⟩)⟩
        have HWP : Aside0 (∀ w' : World, I w' → Calls Tryd.prog 29 #[.pointer (some ⟨p, 0, none⟩)] w' fun e w'' => ∃ A ca B' cb, e = .returned (vT a.idx a.epoch A a.cells.length ca B' a.done.length cb) ∧ I w'' ∧ kC.C w'' A a.cells.length a.cells ∧ kD.C w'' B' a.done.length a.done) := ⟨fun w' h => by have := (hP w' h).whole (p := p) (s := s1) (by simp); rw [ha1] at this; exact this.mono (fun e w'' ⟨A, ca, B', cb, h1, h2, _, h3, h4⟩ => ⟨A, ca, B', cb, h1, hI ▸ h2, h3, h4⟩)⟩
        have HWQ : Aside0 (∀ (w' : World) (A1 B1 : Option Addr), I w' → kC.C w' A1 a.cells.length a.cells → kD.C w' B1 a.done.length a.done → Calls Tryd.prog 29 #[.pointer (some ⟨q, 0, none⟩)] w' fun e w'' => ∃ A ca B' cb, e = .returned (vT a.idx a.epoch A a.cells.length ca B' a.done.length cb) ∧ I w'' ∧ (kC.C w'' A1 a.cells.length a.cells ∧ kD.C w'' B1 a.done.length a.done) ∧ kC.C w'' A a.cells.length a.cells ∧ kD.C w'' B' a.done.length a.done) := ⟨fun w' A1 B1 h k1 k2 => by have := (hP w' h).whole (p := q) (s := s) (by simp); rw [ha] at this; exact this.mono (fun e w'' ⟨A, ca, B', cb, h1, h2, hb, h3, h4⟩ => ⟨A, ca, B', cb, h1, hI ▸ h2, ⟨Kd.C_below k1 hb, Kd.C_below k2 hb⟩, h3, h4⟩)⟩
        have HST : Aside0 (∀ (w' : World) (A1 B1 A2 B2 : Option Addr) (c1 d1 c2 d2 : Nat), I w' → (kC.C w' A1 a.cells.length a.cells ∧ kD.C w' B1 a.done.length a.done) → (kC.C w' A2 a.cells.length a.cells ∧ kD.C w' B2 a.done.length a.done) → Calls Tryd.prog 27 #[vT a.idx a.epoch A1 a.cells.length c1 B1 a.done.length d1, vT a.idx a.epoch A2 a.cells.length c2 B2 a.done.length d2] w' fun e w'' => e = .returned (.bool true) ∧ I w'') := ⟨fun w' A1 B1 A2 B2 c1 d1 c2 d2 h k1 k2 => (SameT_calls a A1 B1 A2 B2 c1 d1 c2 d2 w' k1.1 k1.2 k2.1 k2.2 HACK.out).mono (fun e w'' x => ⟨x.1, hI ▸ (hP w' h).below x.2⟩)⟩
        have HEQC : Aside0 (∀ w', (Op.equalIn 10000 45 (.agg cs.toArray) (.agg cs.toArray)).run Tryd.prog w' = .ok true w') := ⟨fun w' => hcs ▸ eqC_self hcck w'⟩
        have HEQT : Aside0 (∀ w', (Op.equalIn 10000 45 (.agg es.toArray) (.agg es.toArray)).run Tryd.prog w' = .ok true w') := ⟨fun w' => hes ▸ eqC_self httk w'⟩
        have HEC : Aside0 (Tryd.prog.eqGuardType Tryd.prog.depth 45 = false) := ⟨by kernel_rfl⟩
        have HIK : Aside0 (∀ w' : World, I w' → w'.heap[g + 1]? = some (.cells ks.toArray 28 (0, 0))) := ⟨fun w' h => blk_below HR_1.out (hP w' h).be⟩
        have HAWI : Aside0 (∀ w' : World, I w' → Calls Tryd.prog 15 #[] w' fun e w'' => e = .returned (.bool true) ∧ I w'') := ⟨fun w' h => (awake_calls w' (hP w' h).tab).mono (fun e w'' x => ⟨x.1, HIB.out _ _ h x.2⟩)⟩
        have h1 : (en == en) = true := by simp
        have h2 : (le == le) = true := by simp
        have h3 : (cm == cm) = true := by simp
        have h4 : (dt == dt) = true := by simp
        clear hdt hcc htt hcc2 hcck httk hcs hes ha ha1 hI hP HPI HHI HKQ HKP2 HRJ
        go_upto_region 20 with (fail)
        refine start_ (n := 56) (S := fun w' => I w') (ds := []) #[false, false, false, false, false, false, false, false, false, false, false, false, false, false, false, false, false, false, false, false, false, false, false, false, false, false, false, false, false, false, false, false, false, false, false, false, false, false, false, false, false, false, false, false, false, false, false, false, false, false, false, false, false, false, false, false] (by kernel_rfl) rfl rfl (HIB.out _ _ HIr.out (below_drew1 (Below.refl _ _))) (fun hHeld => ?_)
        refine pure_ (i := 0) (N := some 121) (v := ?_) (a' := ?_) #[true, false, false, false, false, false, false, false, false, false, false, false, false, false, false, false, false, false, false, false, false, false, false, false, false, false, false, false, false, false, false, false, false, false, false, false, false, false, false, false, false, false, false, false, false, false, false, false, false, false, false, false, false, false, false, false] rfl rfl (by kernel_rfl) (fun _ _ _ h => h) (Or.inl ⟨by rfl, ?_⟩) ?_ ?_
        rotate_left
        · intro w'
          go_simp
          with_reducible rfl
        rotate_left
        · simp only [Act.put, List.setIfInBounds_toArray, List.set_cons_zero, List.set_cons_succ, i64_w, i32_w]
          rfl
        refine pure_ (i := 1) (N := some 122) (v := ?_) (a' := ?_) #[true, true, false, false, false, false, false, false, false, false, false, false, false, false, false, false, false, false, false, false, false, false, false, false, false, false, false, false, false, false, false, false, false, false, false, false, false, false, false, false, false, false, false, false, false, false, false, false, false, false, false, false, false, false, false, false] rfl rfl (by kernel_rfl) (fun _ _ _ h => h) (Or.inl ⟨by rfl, ?_⟩) ?_ ?_
        rotate_left
        · intro w'
          go_simp
          with_reducible rfl
        rotate_left
        · simp only [Act.put, List.setIfInBounds_toArray, List.set_cons_zero, List.set_cons_succ, i64_w, i32_w]
          rfl
        refine pure_ (i := 2) (N := some 123) (v := ?_) (a' := ?_) #[true, true, true, false, false, false, false, false, false, false, false, false, false, false, false, false, false, false, false, false, false, false, false, false, false, false, false, false, false, false, false, false, false, false, false, false, false, false, false, false, false, false, false, false, false, false, false, false, false, false, false, false, false, false, false, false] rfl rfl (by kernel_rfl) (fun _ _ _ h => h) (Or.inl ⟨by rfl, ?_⟩) ?_ ?_
        rotate_left
        · intro w'
          go_simp
          with_reducible rfl
        rotate_left
        · simp only [Act.put, List.setIfInBounds_toArray, List.set_cons_zero, List.set_cons_succ, i64_w, i32_w]
          rfl
        refine pure_ (i := 3) (N := some 124) (v := ?_) (a' := ?_) #[true, true, true, true, false, false, false, false, false, false, false, false, false, false, false, false, false, false, false, false, false, false, false, false, false, false, false, false, false, false, false, false, false, false, false, false, false, false, false, false, false, false, false, false, false, false, false, false, false, false, false, false, false, false, false, false] rfl rfl (by kernel_rfl) (fun _ _ _ h => h) (Or.inl ⟨by rfl, ?_⟩) ?_ ?_
        rotate_left
        · intro w'
          go_simp
          with_reducible rfl
        rotate_left
        · simp only [Act.put, List.setIfInBounds_toArray, List.set_cons_zero, List.set_cons_succ, i64_w, i32_w]
          rfl
        refine pure_ (i := 4) (N := some 125) (v := ?_) (a' := ?_) #[true, true, true, true, true, false, false, false, false, false, false, false, false, false, false, false, false, false, false, false, false, false, false, false, false, false, false, false, false, false, false, false, false, false, false, false, false, false, false, false, false, false, false, false, false, false, false, false, false, false, false, false, false, false, false, false] rfl rfl (by kernel_rfl) (fun _ _ _ h => h) (Or.inl ⟨by rfl, ?_⟩) ?_ ?_
        rotate_left
        · intro w'
          go_simp
          with_reducible rfl
        rotate_left
        · simp only [Act.put, List.setIfInBounds_toArray, List.set_cons_zero, List.set_cons_succ, i64_w, i32_w]
          rfl
        refine pure_ (i := 5) (N := some 126) (v := ?_) (a' := ?_) #[true, true, true, true, true, true, false, false, false, false, false, false, false, false, false, false, false, false, false, false, false, false, false, false, false, false, false, false, false, false, false, false, false, false, false, false, false, false, false, false, false, false, false, false, false, false, false, false, false, false, false, false, false, false, false, false] rfl rfl (by kernel_rfl) (fun _ _ _ h => h) (Or.inl ⟨by rfl, ?_⟩) ?_ ?_
        rotate_left
        · intro w'
          go_simp
          with_reducible rfl
        rotate_left
        · simp only [Act.put, List.setIfInBounds_toArray, List.set_cons_zero, List.set_cons_succ, i64_w, i32_w]
          rfl
        refine pure_ (i := 6) (N := some 127) (v := ?_) (a' := ?_) #[true, true, true, true, true, true, true, false, false, false, false, false, false, false, false, false, false, false, false, false, false, false, false, false, false, false, false, false, false, false, false, false, false, false, false, false, false, false, false, false, false, false, false, false, false, false, false, false, false, false, false, false, false, false, false, false] rfl rfl (by kernel_rfl) (fun _ _ _ h => h) (Or.inl ⟨by rfl, ?_⟩) ?_ ?_
        rotate_left
        · intro w'
          go_simp
          with_reducible rfl
        rotate_left
        · simp only [Act.put, List.setIfInBounds_toArray, List.set_cons_zero, List.set_cons_succ, i64_w, i32_w]
          rfl
        refine pure_ (i := 7) (N := some 128) (v := ?_) (a' := ?_) #[true, true, true, true, true, true, true, true, false, false, false, false, false, false, false, false, false, false, false, false, false, false, false, false, false, false, false, false, false, false, false, false, false, false, false, false, false, false, false, false, false, false, false, false, false, false, false, false, false, false, false, false, false, false, false, false] rfl rfl (by kernel_rfl) (fun _ _ _ h => h) (Or.inl ⟨by rfl, ?_⟩) ?_ ?_
        rotate_left
        · intro w'
          go_simp
          with_reducible rfl
        rotate_left
        · simp only [Act.put, List.setIfInBounds_toArray, List.set_cons_zero, List.set_cons_succ, i64_w, i32_w]
          rfl
        refine pure_ (i := 8) (N := some 129) (v := ?_) (a' := ?_) #[true, true, true, true, true, true, true, true, true, false, false, false, false, false, false, false, false, false, false, false, false, false, false, false, false, false, false, false, false, false, false, false, false, false, false, false, false, false, false, false, false, false, false, false, false, false, false, false, false, false, false, false, false, false, false, false] rfl rfl (by kernel_rfl) (fun _ _ _ h => h) (Or.inl ⟨by rfl, ?_⟩) ?_ ?_
        rotate_left
        · intro w'
          go_simp
          with_reducible rfl
        rotate_left
        · simp only [Act.put, List.setIfInBounds_toArray, List.set_cons_zero, List.set_cons_succ, i64_w, i32_w]
          rfl
        refine pure_ (i := 9) (N := some 130) (v := ?_) (a' := ?_) #[true, true, true, true, true, true, true, true, true, true, false, false, false, false, false, false, false, false, false, false, false, false, false, false, false, false, false, false, false, false, false, false, false, false, false, false, false, false, false, false, false, false, false, false, false, false, false, false, false, false, false, false, false, false, false, false] rfl rfl (by kernel_rfl) (fun _ _ _ h => h) (Or.inl ⟨by rfl, ?_⟩) ?_ ?_
        rotate_left
        · intro w'
          go_simp
          with_reducible rfl
        rotate_left
        · simp only [Act.put, List.setIfInBounds_toArray, List.set_cons_zero, List.set_cons_succ, i64_w, i32_w]
          rfl
        refine pure_ (i := 11) (N := some 132) (v := ?_) (a' := ?_) #[true, true, true, true, true, true, true, true, true, true, false, true, false, false, false, false, false, false, false, false, false, false, false, false, false, false, false, false, false, false, false, false, false, false, false, false, false, false, false, false, false, false, false, false, false, false, false, false, false, false, false, false, false, false, false, false] rfl rfl (by kernel_rfl) (fun _ _ _ h => h) (Or.inl ⟨by rfl, ?_⟩) ?_ ?_
        rotate_left
        · intro w'
          go_simp
          with_reducible rfl
        rotate_left
        · simp only [Act.put, List.setIfInBounds_toArray, List.set_cons_zero, List.set_cons_succ, i64_w, i32_w]
          rfl
        refine one_ (i := 10) (N := some 131) #[true, true, true, true, true, true, true, true, true, true, true, true, false, false, false, false, false, false, false, false, false, false, false, false, false, false, false, false, false, false, false, false, false, false, false, false, false, false, false, false, false, false, false, false, false, false, false, false, false, false, false, false, false, false, false, false] rfl rfl (by kernel_rfl) (by decide) (fun K hK => ?_)
        refine goes_ Tryd.func30 (by kernel_rfl) rfl #[.pointer (some ⟨p, 0, none⟩)] (by rfl) rfl rfl (by first | rfl | (simp; done) | (simp only [List.map_toArray, List.map_cons, List.map_nil]; rfl)) ?_
        with_reducible refine (HCP.out _ hHeld).mono ?_
        rintro e w21 ⟨rfl, hi_w21⟩
        refine ⟨_, rfl, ?_⟩
        refine hK.out _ _ (hi_w21) (fun hHeld => ?_)
        clear hK K
        refine norm_ (a' := ?_) ?_ ?_
        rotate_left
        · show Act.put _ (some 131) _ = _
          simp only [Act.put, List.setIfInBounds_toArray, List.set_cons_zero, List.set_cons_succ, i64_w, i32_w]
          rfl
        refine one_ (i := 12) (N := some 133) #[true, true, true, true, true, true, true, true, true, true, true, true, true, false, false, false, false, false, false, false, false, false, false, false, false, false, false, false, false, false, false, false, false, false, false, false, false, false, false, false, false, false, false, false, false, false, false, false, false, false, false, false, false, false, false, false] rfl rfl (by kernel_rfl) (by decide) (fun K hK => ?_)
        refine goes_ Tryd.func30 (by kernel_rfl) rfl #[.pointer (some ⟨q, 0, none⟩)] (by rfl) rfl rfl (by first | rfl | (simp; done) | (simp only [List.map_toArray, List.map_cons, List.map_nil]; rfl)) ?_
        with_reducible refine (HCQ.out _ hHeld).mono ?_
        rintro e w22 ⟨rfl, hi_w22⟩
        refine ⟨_, rfl, ?_⟩
        refine hK.out _ _ (hi_w22) (fun hHeld => ?_)
        clear hK K
        refine norm_ (a' := ?_) ?_ ?_
        rotate_left
        · show Act.put _ (some 133) _ = _
          simp only [Act.put, List.setIfInBounds_toArray, List.set_cons_zero, List.set_cons_succ, i64_w, i32_w]
          rfl
        refine pure_ (i := 13) (N := some 134) (v := ?_) (a' := ?_) #[true, true, true, true, true, true, true, true, true, true, true, true, true, true, false, false, false, false, false, false, false, false, false, false, false, false, false, false, false, false, false, false, false, false, false, false, false, false, false, false, false, false, false, false, false, false, false, false, false, false, false, false, false, false, false, false] rfl rfl (by kernel_rfl) (fun _ _ _ h => h) (Or.inl ⟨by rfl, ?_⟩) ?_ ?_
        rotate_left
        · intro w'
          go_simp
          with_reducible rfl
        rotate_left
        · simp only [Act.put, List.setIfInBounds_toArray, List.set_cons_zero, List.set_cons_succ, i64_w, i32_w]
          rfl
        refine pure_ (i := 14) (N := some 135) (v := ?_) (a' := ?_) #[true, true, true, true, true, true, true, true, true, true, true, true, true, true, true, false, false, false, false, false, false, false, false, false, false, false, false, false, false, false, false, false, false, false, false, false, false, false, false, false, false, false, false, false, false, false, false, false, false, false, false, false, false, false, false, false] rfl rfl (by kernel_rfl) (fun _ _ _ h => h) (Or.inl ⟨by rfl, ?_⟩) ?_ ?_
        rotate_left
        · intro w'
          go_simp
          with_reducible rfl
        rotate_left
        · simp only [Act.put, List.setIfInBounds_toArray, List.set_cons_zero, List.set_cons_succ, i64_w, i32_w]
          rfl
        refine pure_ (i := 15) (N := some 136) (v := ?_) (a' := ?_) #[true, true, true, true, true, true, true, true, true, true, true, true, true, true, true, true, false, false, false, false, false, false, false, false, false, false, false, false, false, false, false, false, false, false, false, false, false, false, false, false, false, false, false, false, false, false, false, false, false, false, false, false, false, false, false, false] rfl rfl (by kernel_rfl) (fun _ _ _ h => h) (Or.inl ⟨by rfl, ?_⟩) ?_ ?_
        rotate_left
        · intro w'
          go_simp
          with_reducible rfl
        rotate_left
        · simp only [Act.put, List.setIfInBounds_toArray, List.set_cons_zero, List.set_cons_succ, i64_w, i32_w]
          rfl
        refine pure_ (i := 16) (N := some 137) (v := ?_) (a' := ?_) #[true, true, true, true, true, true, true, true, true, true, true, true, true, true, true, true, true, false, false, false, false, false, false, false, false, false, false, false, false, false, false, false, false, false, false, false, false, false, false, false, false, false, false, false, false, false, false, false, false, false, false, false, false, false, false, false] rfl rfl (by kernel_rfl) (fun _ _ _ h => h) (Or.inl ⟨by rfl, ?_⟩) ?_ ?_
        rotate_left
        · intro w'
          go_simp
          with_reducible rfl
        rotate_left
        · simp only [Act.put, List.setIfInBounds_toArray, List.set_cons_zero, List.set_cons_succ, i64_w, i32_w]
          rfl
        refine pure_ (i := 18) (N := some 139) (v := ?_) (a' := ?_) #[true, true, true, true, true, true, true, true, true, true, true, true, true, true, true, true, true, false, true, false, false, false, false, false, false, false, false, false, false, false, false, false, false, false, false, false, false, false, false, false, false, false, false, false, false, false, false, false, false, false, false, false, false, false, false, false] rfl rfl (by kernel_rfl) (fun _ _ _ h => h) (Or.inl ⟨by rfl, ?_⟩) ?_ ?_
        rotate_left
        · intro w'
          go_simp
          with_reducible rfl
        rotate_left
        · simp only [Act.put, List.setIfInBounds_toArray, List.set_cons_zero, List.set_cons_succ, i64_w, i32_w]
          rfl
        refine one_ (i := 17) (N := some 138) #[true, true, true, true, true, true, true, true, true, true, true, true, true, true, true, true, true, true, true, false, false, false, false, false, false, false, false, false, false, false, false, false, false, false, false, false, false, false, false, false, false, false, false, false, false, false, false, false, false, false, false, false, false, false, false, false] rfl rfl (by kernel_rfl) (by decide) (fun K hK => ?_)
        refine goes_ Tryd.func36 (by kernel_rfl) rfl #[.pointer (some ⟨p, 0, none⟩)] (by rfl) rfl rfl (by first | rfl | (simp; done) | (simp only [List.map_toArray, List.map_cons, List.map_nil]; rfl)) ?_
        with_reducible refine (HDP.out _ hHeld).mono ?_
        rintro e w23 ⟨rfl, hi_w23⟩
        refine ⟨_, rfl, ?_⟩
        refine hK.out _ _ (hi_w23) (fun hHeld => ?_)
        clear hK K
        refine norm_ (a' := ?_) ?_ ?_
        rotate_left
        · show Act.put _ (some 138) _ = _
          simp only [Act.put, List.setIfInBounds_toArray, List.set_cons_zero, List.set_cons_succ, i64_w, i32_w]
          rfl
        refine one_ (i := 19) (N := some 140) #[true, true, true, true, true, true, true, true, true, true, true, true, true, true, true, true, true, true, true, true, false, false, false, false, false, false, false, false, false, false, false, false, false, false, false, false, false, false, false, false, false, false, false, false, false, false, false, false, false, false, false, false, false, false, false, false] rfl rfl (by kernel_rfl) (by decide) (fun K hK => ?_)
        refine goes_ Tryd.func36 (by kernel_rfl) rfl #[.pointer (some ⟨q, 0, none⟩)] (by rfl) rfl rfl (by first | rfl | (simp; done) | (simp only [List.map_toArray, List.map_cons, List.map_nil]; rfl)) ?_
        with_reducible refine (HDQ.out _ hHeld).mono ?_
        rintro e w24 ⟨rfl, hi_w24⟩
        refine ⟨_, rfl, ?_⟩
        refine hK.out _ _ (hi_w24) (fun hHeld => ?_)
        clear hK K
        refine norm_ (a' := ?_) ?_ ?_
        rotate_left
        · show Act.put _ (some 140) _ = _
          simp only [Act.put, List.setIfInBounds_toArray, List.set_cons_zero, List.set_cons_succ, i64_w, i32_w]
          rfl
        refine pure_ (i := 20) (N := some 141) (v := ?_) (a' := ?_) #[true, true, true, true, true, true, true, true, true, true, true, true, true, true, true, true, true, true, true, true, true, false, false, false, false, false, false, false, false, false, false, false, false, false, false, false, false, false, false, false, false, false, false, false, false, false, false, false, false, false, false, false, false, false, false, false] rfl rfl (by kernel_rfl) (fun _ _ _ h => h) (Or.inl ⟨by rfl, ?_⟩) ?_ ?_
        rotate_left
        · intro w'
          go_simp
          with_reducible rfl
        rotate_left
        · simp only [Act.put, List.setIfInBounds_toArray, List.set_cons_zero, List.set_cons_succ, i64_w, i32_w]
          rfl
        refine pure_ (i := 21) (N := some 142) (v := ?_) (a' := ?_) #[true, true, true, true, true, true, true, true, true, true, true, true, true, true, true, true, true, true, true, true, true, true, false, false, false, false, false, false, false, false, false, false, false, false, false, false, false, false, false, false, false, false, false, false, false, false, false, false, false, false, false, false, false, false, false, false] rfl rfl (by kernel_rfl) (fun _ _ _ h => h) (Or.inl ⟨by rfl, ?_⟩) ?_ ?_
        rotate_left
        · intro w'
          go_simp
          with_reducible rfl
        rotate_left
        · simp only [Act.put, List.setIfInBounds_toArray, List.set_cons_zero, List.set_cons_succ, i64_w, i32_w]
          rfl
        refine pure_ (i := 22) (N := some 143) (v := ?_) (a' := ?_) #[true, true, true, true, true, true, true, true, true, true, true, true, true, true, true, true, true, true, true, true, true, true, true, false, false, false, false, false, false, false, false, false, false, false, false, false, false, false, false, false, false, false, false, false, false, false, false, false, false, false, false, false, false, false, false, false] rfl rfl (by kernel_rfl) (fun _ _ _ h => h) (Or.inl ⟨by rfl, ?_⟩) ?_ ?_
        rotate_left
        · intro w'
          go_simp
          with_reducible rfl
        rotate_left
        · simp only [Act.put, List.setIfInBounds_toArray, List.set_cons_zero, List.set_cons_succ, i64_w, i32_w]
          rfl
        refine pure_ (i := 23) (N := some 144) (v := ?_) (a' := ?_) #[true, true, true, true, true, true, true, true, true, true, true, true, true, true, true, true, true, true, true, true, true, true, true, true, false, false, false, false, false, false, false, false, false, false, false, false, false, false, false, false, false, false, false, false, false, false, false, false, false, false, false, false, false, false, false, false] rfl rfl (by kernel_rfl) (fun _ _ _ h => h) (Or.inl ⟨by rfl, ?_⟩) ?_ ?_
        rotate_left
        · intro w'
          go_simp
          with_reducible rfl
        rotate_left
        · simp only [Act.put, List.setIfInBounds_toArray, List.set_cons_zero, List.set_cons_succ, i64_w, i32_w]
          rfl
        refine pure_ (i := 25) (N := some 146) (v := ?_) (a' := ?_) #[true, true, true, true, true, true, true, true, true, true, true, true, true, true, true, true, true, true, true, true, true, true, true, true, false, true, false, false, false, false, false, false, false, false, false, false, false, false, false, false, false, false, false, false, false, false, false, false, false, false, false, false, false, false, false, false] rfl rfl (by kernel_rfl) (fun _ _ _ h => h) (Or.inl ⟨by rfl, ?_⟩) ?_ ?_
        rotate_left
        · intro w'
          go_simp
          with_reducible rfl
        rotate_left
        · simp only [Act.put, List.setIfInBounds_toArray, List.set_cons_zero, List.set_cons_succ, i64_w, i32_w]
          rfl
        refine one_ (i := 24) (N := some 145) #[true, true, true, true, true, true, true, true, true, true, true, true, true, true, true, true, true, true, true, true, true, true, true, true, true, true, false, false, false, false, false, false, false, false, false, false, false, false, false, false, false, false, false, false, false, false, false, false, false, false, false, false, false, false, false, false] rfl rfl (by kernel_rfl) (by decide) (fun K hK => ?_)
        refine goes_ Tryd.func29 (by kernel_rfl) rfl #[.pointer (some ⟨p, 0, none⟩)] (by rfl) rfl rfl (by first | rfl | (simp; done) | (simp only [List.map_toArray, List.map_cons, List.map_nil]; rfl)) ?_
        with_reducible refine (HWP.out _ hHeld).mono ?_
        rintro e wt20a ⟨At20a, ct20a, Bt20a, dt20a, rfl, hit20a, hct20a, hdt20a⟩
        refine ⟨_, rfl, ?_⟩
        have HCt20a := Aside0.mk hct20a
        have HDt20a := Aside0.mk hdt20a
        clear hct20a hdt20a
        refine hK.out _ _ (hit20a) (fun hHeld => ?_)
        clear hK K
        refine norm_ (a' := ?_) ?_ ?_
        rotate_left
        · show Act.put _ (some 145) _ = _
          simp only [Act.put, List.setIfInBounds_toArray, List.set_cons_zero, List.set_cons_succ, i64_w, i32_w]
          rfl
        refine one_ (i := 26) (N := some 147) #[true, true, true, true, true, true, true, true, true, true, true, true, true, true, true, true, true, true, true, true, true, true, true, true, true, true, true, false, false, false, false, false, false, false, false, false, false, false, false, false, false, false, false, false, false, false, false, false, false, false, false, false, false, false, false, false] rfl rfl (by kernel_rfl) (by decide) (fun K hK => ?_)
        refine goes_ Tryd.func29 (by kernel_rfl) rfl #[.pointer (some ⟨q, 0, none⟩)] (by rfl) rfl rfl (by first | rfl | (simp; done) | (simp only [List.map_toArray, List.map_cons, List.map_nil]; rfl)) ?_
        with_reducible refine (HWQ.out _ At20a Bt20a hHeld HCt20a.out HDt20a.out).mono ?_
        rintro e wt20b ⟨At20b, ct20b, Bt20b, dt20b, rfl, hit20b, hct20b, hdt20b⟩
        refine ⟨_, rfl, ?_⟩
        have HCt20b := Aside0.mk hct20b
        have HDt20b := Aside0.mk hdt20b
        clear hct20b hdt20b
        refine hK.out _ _ (hit20b) (fun hHeld => ?_)
        clear hK K
        refine norm_ (a' := ?_) ?_ ?_
        rotate_left
        · show Act.put _ (some 147) _ = _
          simp only [Act.put, List.setIfInBounds_toArray, List.set_cons_zero, List.set_cons_succ, i64_w, i32_w]
          rfl
        refine one_ (i := 27) (N := some 148) #[true, true, true, true, true, true, true, true, true, true, true, true, true, true, true, true, true, true, true, true, true, true, true, true, true, true, true, true, false, false, false, false, false, false, false, false, false, false, false, false, false, false, false, false, false, false, false, false, false, false, false, false, false, false, false, false] rfl rfl (by kernel_rfl) (by decide) (fun K hK => ?_)
        refine goes_ Tryd.func27 (by kernel_rfl) rfl #[vT a.idx a.epoch At20a a.cells.length ct20a Bt20a a.done.length dt20a, vT a.idx a.epoch At20b a.cells.length ct20b Bt20b a.done.length dt20b] (by rfl) rfl rfl (by first | rfl | (simp; done) | (simp only [List.map_toArray, List.map_cons, List.map_nil]; rfl)) ?_
        with_reducible refine (HST.out _ At20a Bt20a At20b Bt20b ct20a dt20a ct20b dt20b hHeld HCt20b.out HDt20b.out).mono ?_
        rintro e wt20c ⟨rfl, hit20c⟩
        refine ⟨_, rfl, ?_⟩
        refine hK.out _ _ (hit20c) (fun hHeld => ?_)
        clear hK K
        refine norm_ (a' := ?_) ?_ ?_
        rotate_left
        · show Act.put _ (some 148) _ = _
          simp only [Act.put, List.setIfInBounds_toArray, List.set_cons_zero, List.set_cons_succ, i64_w, i32_w]
          rfl
        refine pure_ (i := 28) (N := some 149) (v := ?_) (a' := ?_) #[true, true, true, true, true, true, true, true, true, true, true, true, true, true, true, true, true, true, true, true, true, true, true, true, true, true, true, true, true, false, false, false, false, false, false, false, false, false, false, false, false, false, false, false, false, false, false, false, false, false, false, false, false, false, false, false] rfl rfl (by kernel_rfl) (fun _ _ _ h => h) (Or.inl ⟨by rfl, ?_⟩) ?_ ?_
        rotate_left
        · intro w'
          go_simp
          with_reducible rfl
        rotate_left
        · simp only [Act.put, List.setIfInBounds_toArray, List.set_cons_zero, List.set_cons_succ, i64_w, i32_w]
          rfl
        refine pure_ (i := 29) (N := some 150) (v := ?_) (a' := ?_) #[true, true, true, true, true, true, true, true, true, true, true, true, true, true, true, true, true, true, true, true, true, true, true, true, true, true, true, true, true, true, false, false, false, false, false, false, false, false, false, false, false, false, false, false, false, false, false, false, false, false, false, false, false, false, false, false] rfl rfl (by kernel_rfl) (fun _ _ _ h => h) (Or.inl ⟨by rfl, ?_⟩) ?_ ?_
        rotate_left
        · intro w'
          go_simp
          with_reducible rfl
        rotate_left
        · simp only [Act.put, List.setIfInBounds_toArray, List.set_cons_zero, List.set_cons_succ, i64_w, i32_w]
          rfl
        refine pure_ (i := 30) (N := some 151) (v := ?_) (a' := ?_) #[true, true, true, true, true, true, true, true, true, true, true, true, true, true, true, true, true, true, true, true, true, true, true, true, true, true, true, true, true, true, true, false, false, false, false, false, false, false, false, false, false, false, false, false, false, false, false, false, false, false, false, false, false, false, false, false] rfl rfl (by kernel_rfl) (fun _ _ _ h => h) (Or.inl ⟨by rfl, ?_⟩) ?_ ?_
        rotate_left
        · intro w'
          go_simp
          with_reducible rfl
        rotate_left
        · simp only [Act.put, List.setIfInBounds_toArray, List.set_cons_zero, List.set_cons_succ, i64_w, i32_w]
          rfl
        refine pure_ (i := 31) (N := some 152) (v := ?_) (a' := ?_) #[true, true, true, true, true, true, true, true, true, true, true, true, true, true, true, true, true, true, true, true, true, true, true, true, true, true, true, true, true, true, true, true, false, false, false, false, false, false, false, false, false, false, false, false, false, false, false, false, false, false, false, false, false, false, false, false] rfl rfl (by kernel_rfl) (fun _ _ _ h => h) (Or.inl ⟨by rfl, ?_⟩) ?_ ?_
        rotate_left
        · intro w'
          go_simp
          with_reducible rfl
        rotate_left
        · simp only [Act.put, List.setIfInBounds_toArray, List.set_cons_zero, List.set_cons_succ, i64_w, i32_w]
          rfl
        refine one_ (i := 32) (N := some 153) #[true, true, true, true, true, true, true, true, true, true, true, true, true, true, true, true, true, true, true, true, true, true, true, true, true, true, true, true, true, true, true, true, true, false, false, false, false, false, false, false, false, false, false, false, false, false, false, false, false, false, false, false, false, false, false, false] rfl rfl (by kernel_rfl) (by decide) (fun K hK => ?_)
        refine goes_ Tryd.func39 (by kernel_rfl) rfl #[.slice A1 n9 c1, .slice A2 n9 c2] (by rfl) rfl rfl (by first | rfl | (simp; done) | (simp only [List.map_toArray, List.map_cons, List.map_nil]; rfl)) ?_
        with_reducible refine (HSR.out _ hHeld).mono ?_
        rintro e w25 ⟨rfl, hi_w25⟩
        refine ⟨_, rfl, ?_⟩
        refine hK.out _ _ (hi_w25) (fun hHeld => ?_)
        clear hK K
        refine norm_ (a' := ?_) ?_ ?_
        rotate_left
        · show Act.put _ (some 153) _ = _
          simp only [Act.put, List.setIfInBounds_toArray, List.set_cons_zero, List.set_cons_succ, i64_w, i32_w]
          rfl
        refine pure_ (i := 33) (N := some 154) (v := ?_) (a' := ?_) #[true, true, true, true, true, true, true, true, true, true, true, true, true, true, true, true, true, true, true, true, true, true, true, true, true, true, true, true, true, true, true, true, true, true, false, false, false, false, false, false, false, false, false, false, false, false, false, false, false, false, false, false, false, false, false, false] rfl rfl (by kernel_rfl) (fun _ _ _ h => h) (Or.inl ⟨by rfl, ?_⟩) ?_ ?_
        rotate_left
        · intro w'
          go_simp
          with_reducible rfl
        rotate_left
        · simp only [Act.put, List.setIfInBounds_toArray, List.set_cons_zero, List.set_cons_succ, i64_w, i32_w]
          rfl
        refine pure_ (i := 34) (N := some 155) (v := ?_) (a' := ?_) #[true, true, true, true, true, true, true, true, true, true, true, true, true, true, true, true, true, true, true, true, true, true, true, true, true, true, true, true, true, true, true, true, true, true, true, false, false, false, false, false, false, false, false, false, false, false, false, false, false, false, false, false, false, false, false, false] rfl rfl (by kernel_rfl) (fun _ _ _ h => h) (Or.inl ⟨by rfl, ?_⟩) ?_ ?_
        rotate_left
        · intro w'
          go_simp
          with_reducible rfl
        rotate_left
        · simp only [Act.put, List.setIfInBounds_toArray, List.set_cons_zero, List.set_cons_succ, i64_w, i32_w]
          rfl
        refine pure_ (i := 35) (N := some 156) (v := ?_) (a' := ?_) #[true, true, true, true, true, true, true, true, true, true, true, true, true, true, true, true, true, true, true, true, true, true, true, true, true, true, true, true, true, true, true, true, true, true, true, true, false, false, false, false, false, false, false, false, false, false, false, false, false, false, false, false, false, false, false, false] rfl rfl (by kernel_rfl) (fun _ _ _ h => h) (Or.inl ⟨by rfl, ?_⟩) ?_ ?_
        rotate_left
        · intro w'
          go_simp
          with_reducible rfl
        rotate_left
        · simp only [Act.put, List.setIfInBounds_toArray, List.set_cons_zero, List.set_cons_succ, i64_w, i32_w]
          rfl
        refine pure_ (i := 38) (N := some 159) (v := ?_) (a' := ?_) #[true, true, true, true, true, true, true, true, true, true, true, true, true, true, true, true, true, true, true, true, true, true, true, true, true, true, true, true, true, true, true, true, true, true, true, true, false, false, true, false, false, false, false, false, false, false, false, false, false, false, false, false, false, false, false, false] rfl rfl (by kernel_rfl) (fun _ _ _ h => h) (Or.inl ⟨by rfl, ?_⟩) ?_ ?_
        rotate_left
        · intro w'
          go_simp
          with_reducible rfl
        rotate_left
        · simp only [Act.put, List.setIfInBounds_toArray, List.set_cons_zero, List.set_cons_succ, i64_w, i32_w]
          rfl
        refine take_ (i := 36) (N := some 157) (v := ?_) (a' := ?_) #[true, true, true, true, true, true, true, true, true, true, true, true, true, true, true, true, true, true, true, true, true, true, true, true, true, true, true, true, true, true, true, true, true, true, true, true, true, false, true, false, false, false, false, false, false, false, false, false, false, false, false, false, false, false, false, false] rfl rfl (by kernel_rfl) (fun _ _ _ h => h) (Or.inl ⟨by rfl, ?_⟩) hHeld ?_ ?_
        rotate_left
        · intro w' s0
          refine Eq.trans (exec_seg (P := Tryd.prog) 28 (.tmp 7) rfl (g + 1) 0 rfl ks (by rw [HKL.out]; exact aggK) (SegAt.blk (t := 28) (fr := (0, 0)) (HIK.out _ s0))) ?_
          with_reducible rfl
        rotate_left
        · simp only [Act.put, List.setIfInBounds_toArray, List.set_cons_zero, List.set_cons_succ, i64_w, i32_w]
          rfl
        refine take_ (i := 39) (N := some 160) (v := ?_) (a' := ?_) #[true, true, true, true, true, true, true, true, true, true, true, true, true, true, true, true, true, true, true, true, true, true, true, true, true, true, true, true, true, true, true, true, true, true, true, true, true, false, true, true, false, false, false, false, false, false, false, false, false, false, false, false, false, false, false, false] rfl rfl (by kernel_rfl) (fun _ _ _ h => h) (Or.inl ⟨by rfl, ?_⟩) hHeld ?_ ?_
        rotate_left
        · intro w' s0
          refine Eq.trans (exec_seg (P := Tryd.prog) 28 (.tmp 7) rfl (g + 1) 0 rfl ks (by rw [HKL.out]; exact aggK) (SegAt.blk (t := 28) (fr := (0, 0)) (HIK.out _ s0))) ?_
          with_reducible rfl
        rotate_left
        · simp only [Act.put, List.setIfInBounds_toArray, List.set_cons_zero, List.set_cons_succ, i64_w, i32_w]
          rfl
        refine one_ (i := 37) (N := some 158) #[true, true, true, true, true, true, true, true, true, true, true, true, true, true, true, true, true, true, true, true, true, true, true, true, true, true, true, true, true, true, true, true, true, true, true, true, true, true, true, true, false, false, false, false, false, false, false, false, false, false, false, false, false, false, false, false] rfl rfl (by kernel_rfl) (by decide) (fun K hK => ?_)
        refine goes_ Tryd.func37 (by kernel_rfl) rfl #[.pointer (some ⟨p, 0, none⟩), .agg ks.toArray] (by rfl) rfl rfl (by first | rfl | (simp; done) | (simp only [List.map_toArray, List.map_cons, List.map_nil]; rfl)) ?_
        with_reducible refine (HNP.out _ hHeld).mono ?_
        rintro e w26 ⟨rfl, hi_w26⟩
        refine ⟨_, rfl, ?_⟩
        refine hK.out _ _ (hi_w26) (fun hHeld => ?_)
        clear hK K
        refine norm_ (a' := ?_) ?_ ?_
        rotate_left
        · show Act.put _ (some 158) _ = _
          simp only [Act.put, List.setIfInBounds_toArray, List.set_cons_zero, List.set_cons_succ, i64_w, i32_w]
          rfl
        refine one_ (i := 40) (N := some 161) #[true, true, true, true, true, true, true, true, true, true, true, true, true, true, true, true, true, true, true, true, true, true, true, true, true, true, true, true, true, true, true, true, true, true, true, true, true, true, true, true, true, false, false, false, false, false, false, false, false, false, false, false, false, false, false, false] rfl rfl (by kernel_rfl) (by decide) (fun K hK => ?_)
        refine goes_ Tryd.func37 (by kernel_rfl) rfl #[.pointer (some ⟨q, 0, none⟩), .agg ks.toArray] (by rfl) rfl rfl (by first | rfl | (simp; done) | (simp only [List.map_toArray, List.map_cons, List.map_nil]; rfl)) ?_
        with_reducible refine (HNQ.out _ hHeld).mono ?_
        rintro e w27 ⟨rfl, hi_w27⟩
        refine ⟨_, rfl, ?_⟩
        refine hK.out _ _ (hi_w27) (fun hHeld => ?_)
        clear hK K
        refine norm_ (a' := ?_) ?_ ?_
        rotate_left
        · show Act.put _ (some 161) _ = _
          simp only [Act.put, List.setIfInBounds_toArray, List.set_cons_zero, List.set_cons_succ, i64_w, i32_w]
          rfl
        refine pure_ (i := 41) (N := some 162) (v := ?_) (a' := ?_) #[true, true, true, true, true, true, true, true, true, true, true, true, true, true, true, true, true, true, true, true, true, true, true, true, true, true, true, true, true, true, true, true, true, true, true, true, true, true, true, true, true, true, false, false, false, false, false, false, false, false, false, false, false, false, false, false] rfl rfl (by kernel_rfl) (fun _ _ _ h => h) (Or.inl ⟨by rfl, ?_⟩) ?_ ?_
        rotate_left
        · intro w'
          refine Eq.trans (exec_eql 45 45 (.tmp 158) (.tmp 161) rfl cs.toArray rfl rfl HEC.out HEQC.out) ?_
          with_reducible rfl
        rotate_left
        · simp only [Act.put, List.setIfInBounds_toArray, List.set_cons_zero, List.set_cons_succ, i64_w, i32_w]
          rfl
        refine pure_ (i := 42) (N := some 163) (v := ?_) (a' := ?_) #[true, true, true, true, true, true, true, true, true, true, true, true, true, true, true, true, true, true, true, true, true, true, true, true, true, true, true, true, true, true, true, true, true, true, true, true, true, true, true, true, true, true, true, false, false, false, false, false, false, false, false, false, false, false, false, false] rfl rfl (by kernel_rfl) (fun _ _ _ h => h) (Or.inl ⟨by rfl, ?_⟩) ?_ ?_
        rotate_left
        · intro w'
          go_simp
          with_reducible rfl
        rotate_left
        · simp only [Act.put, List.setIfInBounds_toArray, List.set_cons_zero, List.set_cons_succ, i64_w, i32_w]
          rfl
        refine pure_ (i := 43) (N := some 164) (v := ?_) (a' := ?_) #[true, true, true, true, true, true, true, true, true, true, true, true, true, true, true, true, true, true, true, true, true, true, true, true, true, true, true, true, true, true, true, true, true, true, true, true, true, true, true, true, true, true, true, true, false, false, false, false, false, false, false, false, false, false, false, false] rfl rfl (by kernel_rfl) (fun _ _ _ h => h) (Or.inl ⟨by rfl, ?_⟩) ?_ ?_
        rotate_left
        · intro w'
          go_simp
          with_reducible rfl
        rotate_left
        · simp only [Act.put, List.setIfInBounds_toArray, List.set_cons_zero, List.set_cons_succ, i64_w, i32_w]
          rfl
        refine pure_ (i := 44) (N := some 165) (v := ?_) (a' := ?_) #[true, true, true, true, true, true, true, true, true, true, true, true, true, true, true, true, true, true, true, true, true, true, true, true, true, true, true, true, true, true, true, true, true, true, true, true, true, true, true, true, true, true, true, true, true, false, false, false, false, false, false, false, false, false, false, false] rfl rfl (by kernel_rfl) (fun _ _ _ h => h) (Or.inl ⟨by rfl, ?_⟩) ?_ ?_
        rotate_left
        · intro w'
          go_simp
          with_reducible rfl
        rotate_left
        · simp only [Act.put, List.setIfInBounds_toArray, List.set_cons_zero, List.set_cons_succ, i64_w, i32_w]
          rfl
        refine pure_ (i := 47) (N := some 168) (v := ?_) (a' := ?_) #[true, true, true, true, true, true, true, true, true, true, true, true, true, true, true, true, true, true, true, true, true, true, true, true, true, true, true, true, true, true, true, true, true, true, true, true, true, true, true, true, true, true, true, true, true, false, false, true, false, false, false, false, false, false, false, false] rfl rfl (by kernel_rfl) (fun _ _ _ h => h) (Or.inl ⟨by rfl, ?_⟩) ?_ ?_
        rotate_left
        · intro w'
          go_simp
          with_reducible rfl
        rotate_left
        · simp only [Act.put, List.setIfInBounds_toArray, List.set_cons_zero, List.set_cons_succ, i64_w, i32_w]
          rfl
        refine take_ (i := 45) (N := some 166) (v := ?_) (a' := ?_) #[true, true, true, true, true, true, true, true, true, true, true, true, true, true, true, true, true, true, true, true, true, true, true, true, true, true, true, true, true, true, true, true, true, true, true, true, true, true, true, true, true, true, true, true, true, true, false, true, false, false, false, false, false, false, false, false] rfl rfl (by kernel_rfl) (fun _ _ _ h => h) (Or.inl ⟨by rfl, ?_⟩) hHeld ?_ ?_
        rotate_left
        · intro w' s0
          refine Eq.trans (exec_seg (P := Tryd.prog) 28 (.tmp 7) rfl (g + 1) 0 rfl ks (by rw [HKL.out]; exact aggK) (SegAt.blk (t := 28) (fr := (0, 0)) (HIK.out _ s0))) ?_
          with_reducible rfl
        rotate_left
        · simp only [Act.put, List.setIfInBounds_toArray, List.set_cons_zero, List.set_cons_succ, i64_w, i32_w]
          rfl
        refine take_ (i := 48) (N := some 169) (v := ?_) (a' := ?_) #[true, true, true, true, true, true, true, true, true, true, true, true, true, true, true, true, true, true, true, true, true, true, true, true, true, true, true, true, true, true, true, true, true, true, true, true, true, true, true, true, true, true, true, true, true, true, false, true, true, false, false, false, false, false, false, false] rfl rfl (by kernel_rfl) (fun _ _ _ h => h) (Or.inl ⟨by rfl, ?_⟩) hHeld ?_ ?_
        rotate_left
        · intro w' s0
          refine Eq.trans (exec_seg (P := Tryd.prog) 28 (.tmp 7) rfl (g + 1) 0 rfl ks (by rw [HKL.out]; exact aggK) (SegAt.blk (t := 28) (fr := (0, 0)) (HIK.out _ s0))) ?_
          with_reducible rfl
        rotate_left
        · simp only [Act.put, List.setIfInBounds_toArray, List.set_cons_zero, List.set_cons_succ, i64_w, i32_w]
          rfl
        refine one_ (i := 46) (N := some 167) #[true, true, true, true, true, true, true, true, true, true, true, true, true, true, true, true, true, true, true, true, true, true, true, true, true, true, true, true, true, true, true, true, true, true, true, true, true, true, true, true, true, true, true, true, true, true, true, true, true, false, false, false, false, false, false, false] rfl rfl (by kernel_rfl) (by decide) (fun K hK => ?_)
        refine goes_ Tryd.func18 (by kernel_rfl) rfl #[.pointer (some ⟨p, 0, none⟩), .agg ks.toArray] (by rfl) rfl rfl (by first | rfl | (simp; done) | (simp only [List.map_toArray, List.map_cons, List.map_nil]; rfl)) ?_
        with_reducible refine (HPP.out _ hHeld).mono ?_
        rintro e w28 ⟨rfl, hi_w28⟩
        refine ⟨_, rfl, ?_⟩
        refine hK.out _ _ (hi_w28) (fun hHeld => ?_)
        clear hK K
        refine norm_ (a' := ?_) ?_ ?_
        rotate_left
        · show Act.put _ (some 167) _ = _
          simp only [Act.put, List.setIfInBounds_toArray, List.set_cons_zero, List.set_cons_succ, i64_w, i32_w]
          rfl
        refine one_ (i := 49) (N := some 170) #[true, true, true, true, true, true, true, true, true, true, true, true, true, true, true, true, true, true, true, true, true, true, true, true, true, true, true, true, true, true, true, true, true, true, true, true, true, true, true, true, true, true, true, true, true, true, true, true, true, true, false, false, false, false, false, false] rfl rfl (by kernel_rfl) (by decide) (fun K hK => ?_)
        refine goes_ Tryd.func18 (by kernel_rfl) rfl #[.pointer (some ⟨q, 0, none⟩), .agg ks.toArray] (by rfl) rfl rfl (by first | rfl | (simp; done) | (simp only [List.map_toArray, List.map_cons, List.map_nil]; rfl)) ?_
        with_reducible refine (HPQ.out _ hHeld).mono ?_
        rintro e w29 ⟨rfl, hi_w29⟩
        refine ⟨_, rfl, ?_⟩
        refine hK.out _ _ (hi_w29) (fun hHeld => ?_)
        clear hK K
        refine norm_ (a' := ?_) ?_ ?_
        rotate_left
        · show Act.put _ (some 170) _ = _
          simp only [Act.put, List.setIfInBounds_toArray, List.set_cons_zero, List.set_cons_succ, i64_w, i32_w]
          rfl
        refine pure_ (i := 50) (N := some 171) (v := ?_) (a' := ?_) #[true, true, true, true, true, true, true, true, true, true, true, true, true, true, true, true, true, true, true, true, true, true, true, true, true, true, true, true, true, true, true, true, true, true, true, true, true, true, true, true, true, true, true, true, true, true, true, true, true, true, true, false, false, false, false, false] rfl rfl (by kernel_rfl) (fun _ _ _ h => h) (Or.inl ⟨by rfl, ?_⟩) ?_ ?_
        rotate_left
        · intro w'
          refine Eq.trans (exec_eql 45 45 (.tmp 167) (.tmp 170) rfl es.toArray rfl rfl HEC.out HEQT.out) ?_
          with_reducible rfl
        rotate_left
        · simp only [Act.put, List.setIfInBounds_toArray, List.set_cons_zero, List.set_cons_succ, i64_w, i32_w]
          rfl
        refine pure_ (i := 51) (N := some 172) (v := ?_) (a' := ?_) #[true, true, true, true, true, true, true, true, true, true, true, true, true, true, true, true, true, true, true, true, true, true, true, true, true, true, true, true, true, true, true, true, true, true, true, true, true, true, true, true, true, true, true, true, true, true, true, true, true, true, true, true, false, false, false, false] rfl rfl (by kernel_rfl) (fun _ _ _ h => h) (Or.inl ⟨by rfl, ?_⟩) ?_ ?_
        rotate_left
        · intro w'
          go_simp
          with_reducible rfl
        rotate_left
        · simp only [Act.put, List.setIfInBounds_toArray, List.set_cons_zero, List.set_cons_succ, i64_w, i32_w]
          rfl
        refine pure_ (i := 52) (N := some 173) (v := ?_) (a' := ?_) #[true, true, true, true, true, true, true, true, true, true, true, true, true, true, true, true, true, true, true, true, true, true, true, true, true, true, true, true, true, true, true, true, true, true, true, true, true, true, true, true, true, true, true, true, true, true, true, true, true, true, true, true, true, false, false, false] rfl rfl (by kernel_rfl) (fun _ _ _ h => h) (Or.inl ⟨by rfl, ?_⟩) ?_ ?_
        rotate_left
        · intro w'
          go_simp
          with_reducible rfl
        rotate_left
        · simp only [Act.put, List.setIfInBounds_toArray, List.set_cons_zero, List.set_cons_succ, i64_w, i32_w]
          rfl
        refine one_ (i := 53) (N := some 174) #[true, true, true, true, true, true, true, true, true, true, true, true, true, true, true, true, true, true, true, true, true, true, true, true, true, true, true, true, true, true, true, true, true, true, true, true, true, true, true, true, true, true, true, true, true, true, true, true, true, true, true, true, true, true, false, false] rfl rfl (by kernel_rfl) (by decide) (fun K hK => ?_)
        refine goes_ Tryd.func15 (by kernel_rfl) rfl #[] (by rfl) rfl rfl (by first | rfl | (simp; done) | (simp only [List.map_toArray, List.map_cons, List.map_nil]; rfl)) ?_
        with_reducible refine (HAWI.out _ hHeld).mono ?_
        rintro e w20 ⟨rfl, hi20⟩
        refine ⟨_, rfl, ?_⟩
        refine hK.out _ _ (hi20) (fun hHeld => ?_)
        clear hK K
        refine norm_ (a' := ?_) ?_ ?_
        rotate_left
        · show Act.put _ (some 174) _ = _
          simp only [Act.put, List.setIfInBounds_toArray, List.set_cons_zero, List.set_cons_succ, i64_w, i32_w]
          rfl
        refine pure_ (i := 54) (N := some 175) (v := ?_) (a' := ?_) #[true, true, true, true, true, true, true, true, true, true, true, true, true, true, true, true, true, true, true, true, true, true, true, true, true, true, true, true, true, true, true, true, true, true, true, true, true, true, true, true, true, true, true, true, true, true, true, true, true, true, true, true, true, true, true, false] rfl rfl (by kernel_rfl) (fun _ _ _ h => h) (Or.inl ⟨by rfl, ?_⟩) ?_ ?_
        rotate_left
        · intro w'
          go_simp
          with_reducible rfl
        rotate_left
        · simp only [Act.put, List.setIfInBounds_toArray, List.set_cons_zero, List.set_cons_succ, i64_w, i32_w]
          rfl
        refine pure_ (i := 55) (N := some 8) (v := ?_) (a' := ?_) #[true, true, true, true, true, true, true, true, true, true, true, true, true, true, true, true, true, true, true, true, true, true, true, true, true, true, true, true, true, true, true, true, true, true, true, true, true, true, true, true, true, true, true, true, true, true, true, true, true, true, true, true, true, true, true, true] rfl rfl (by kernel_rfl) (fun _ _ _ h => h) (Or.inl ⟨by rfl, ?_⟩) ?_ ?_
        rotate_left
        · intro w'
          go_simp
          with_reducible rfl
        rotate_left
        · simp only [Act.put, List.setIfInBounds_toArray, List.set_cons_zero, List.set_cons_succ, i64_w, i32_w]
          rfl
        refine done_ (by kernel_rfl) ?_
        go_wp2_with (fail)
        go_ret
        have hb20 := HIA.out _ hi20
        exact ⟨rfl, by first | exact below_then HB.out HB.out.size hb20 | exact hg ▸ below_then HB.out HB.out.size hb20⟩
end Go.Proofs.YtgmaedngkhidlaaDoor.Sf
