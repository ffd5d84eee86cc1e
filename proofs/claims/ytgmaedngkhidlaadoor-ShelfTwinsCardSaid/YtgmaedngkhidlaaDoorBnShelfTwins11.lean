/- Texts that the row of LawShelfTwins rests on, part 11 of 12: contracts of the functions, their walks, plain laws. -/
import Derived.Test.YtgmaedngkhidlaaDoorBnShelfTwins10
set_option linter.unusedSimpArgs false
-- ShR
namespace Go.Proofs.YtgmaedngkhidlaaDoor.Sf
open Go Go.RowKit Go.ChangeMaps Go.MapKept Go.Proofs.YtgmaedngkhidlaaDoorW.PrintWords Go.Proofs.YtgmaedngkhidlaaDoorW.PrintLast Go.Proofs.YtgmaedngkhidlaaDoorW.PrintMore
open Go.Maps (Keyed)
set_option linter.unusedVariables false
set_option linter.unusedSimpArgs false
section
variable {S S1 S2 : List (Nat × Sh)} {B : List (World → Prop)} {w0 w w1 : World} {p q : Nat} {s s' : Sh}
theorem Fam.all (h : Fam S B w0 w) (hm : (p, s) ∈ S) : Calls Tryd.prog 19 #[.pointer (some ⟨p, 0, none⟩), .int .i64 s.T.idx, .int .i64 99] w fun e w' => ∃ A c, e = .returned (.tuple #[.slice A s.R.length c, .bool true]) ∧ Fam S (rowP A s.R.length s.R :: B) w0 w' := by
  have := h.behind hm s.T.idx 99
  rw [behind_all (h.wfd hm).1] at this
  exact this.mono (fun e w'' ⟨A, c, h1, h2, _⟩ => ⟨A, c, h1, h2⟩)
theorem Fam.sameR (h : Fam S B w0 w) (hm : (p, s) ∈ S) {A1 A2 : Option Addr} (m1 : rowP A1 s.R.length s.R ∈ B) (m2 : rowP A2 s.R.length s.R ∈ B) (c1 c2 : Nat) : Calls Tryd.prog 39 #[.slice A1 s.R.length c1, .slice A2 s.R.length c2] w fun e w' => e = .returned (.bool true) ∧ Fam S B w0 w' :=
  (SameR_calls A1 A2 c1 c2 s.R w (h.get m1) (h.get m2) (by have := (h.wfd hm).1.len; omega) (h.wfd hm).2.rc).mono (fun e w'' x => ⟨x.1, h.below x.2.below⟩)
abbrev tabC (w : World) (t : Tab) (A B : Option Addr) : Prop := kC.C w A t.cells.length t.cells ∧ kD.C w B t.done.length t.done
theorem Fam.whole1 (h : Fam S B w0 w) (hm : (p, s) ∈ S) : Calls Tryd.prog 29 #[.pointer (some ⟨p, 0, none⟩)] w fun e w' => ∃ A ca B' cb, e = .returned (vT (comT s).idx (comT s).epoch A (comT s).cells.length ca B' (comT s).done.length cb) ∧ Fam S B w0 w' ∧ tabC w' (comT s) A B' :=
  (h.whole hm).mono (fun e w'' ⟨A, ca, B', cb, h1, h2, _, h3, h4⟩ => ⟨A, ca, B', cb, h1, h2, h3, h4⟩)
theorem Fam.whole2 (h : Fam S B w0 w) (hm : (p, s) ∈ S) {t : Tab} {A1 B1 : Option Addr} (k : tabC w t A1 B1) : Calls Tryd.prog 29 #[.pointer (some ⟨p, 0, none⟩)] w fun e w' => ∃ A ca B' cb, e = .returned (vT (comT s).idx (comT s).epoch A (comT s).cells.length ca B' (comT s).done.length cb) ∧ Fam S B w0 w' ∧ tabC w' t A1 B1 ∧ tabC w' (comT s) A B' :=
  (h.whole hm).mono (fun e w'' ⟨A, ca, B', cb, h1, h2, hb, h3, h4⟩ => ⟨A, ca, B', cb, h1, h2, ⟨Kd.C_below k.1 hb, Kd.C_below k.2 hb⟩, h3, h4⟩)
theorem Fam.sameT (h : Fam S B w0 w) (hm : (p, s) ∈ S) {A1 B1 A2 B2 : Option Addr} (k1 : tabC w (comT s) A1 B1) (k2 : tabC w (comT s) A2 B2) (c1 d1 c2 d2 : Nat) : Calls Tryd.prog 27 #[vT (comT s).idx (comT s).epoch A1 (comT s).cells.length c1 B1 (comT s).done.length d1, vT (comT s).idx (comT s).epoch A2 (comT s).cells.length c2 B2 (comT s).done.length d2] w fun e w' => e = .returned (.bool true) ∧ Fam S B w0 w' :=
  (SameT_calls (comT s) A1 B1 A2 B2 c1 d1 c2 d2 w k1.1 k1.2 k2.1 k2.2 (com_keys (h.wfd hm).2)).mono (fun e w'' x => ⟨x.1, h.below x.2⟩)
end
theorem made_append (t : Tab) (l m : List Dq) : madeS t (l ++ m) = m.foldl nextS (madeS t l) := by unfold madeS; rw [List.foldl_append]
theorem take_next {l : List Dq} {s : Sh} {j : Nat} (h : l.length ≤ j) : (l.take (j + 1)).foldl nextS s = (l.take j).foldl nextS s := by rw [List.take_of_length_le (by omega), List.take_of_length_le h]
set_option maxHeartbeats 16000000 in
set_option maxRecDepth 100000 in
theorem ShelfTwins_calls (t : Tab) (A B Q Q1 Q2 : Option Addr) (c d cq cq1 cq2 : Nat) (l l1 l2 : List Dq) (w : World) (hC : kC.C w A t.cells.length t.cells) (hD : kD.C w B t.done.length t.done) (hQ_l : kQ.C w Q l.length l) (hQ_l1 : kQ.C w Q1 l1.length l1) (hQ_l2 : kQ.C w Q2 l2.length l2) (hk : ∀ x ∈ t.cells, KeyL x.key ∧ x.val.size ≤ 9223372036854775807) (hq_l : ∀ k ∈ l, QOk k) (hq_l1 : ∀ k ∈ l1, QOk k) (hq_l2 : ∀ k ∈ l2, QOk k) (hcap : l.length ≤ cq) (hT : Tabs w) :
    Calls Tryd.prog 8 #[vT t.idx t.epoch A t.cells.length c B t.done.length d, .slice Q l.length cq, .slice Q1 l1.length cq1, .slice Q2 l2.length cq2] w fun e w' => e = .returned (.bool true) ∧ Below w.heap.size w w' := by
  have HCAP := Aside0.mk hcap
  clear hcap
  obtain ⟨g, hg⟩ : ∃ g, w.heap.size = g := ⟨_, rfl⟩
  obtain ⟨idx, hidx⟩ : ∃ idx, t.idx = idx := ⟨_, rfl⟩
  obtain ⟨ep, hep⟩ : ∃ ep, t.epoch = ep := ⟨_, rfl⟩
  obtain ⟨n, hn⟩ : ∃ n, t.cells.length = n := ⟨_, rfl⟩
  obtain ⟨m, hm⟩ : ∃ m, t.done.length = m := ⟨_, rfl⟩
  obtain ⟨L, hL⟩ : ∃ L, l.length = L := ⟨_, rfl⟩
  obtain ⟨L1, hL1⟩ : ∃ L1, l1.length = L1 := ⟨_, rfl⟩
  obtain ⟨L2, hL2⟩ : ∃ L2, l2.length = L2 := ⟨_, rfl⟩
  obtain ⟨w2, hw_0⟩ : ∃ w_, w.alloc (.cells #[.int .i64 idx, .int .i64 ep, .slice A n c, .slice B m d] 25) = w_ := ⟨_, rfl⟩
  have hb_1 : Below w.heap.size w w2 := hw_0 ▸ below_alloc (Below.refl _ _) _
  have hR_0_1 : w2.heap[g]? = some (.cells [.int .i64 idx, .int .i64 ep, .slice A n c, .slice B m d].toArray 25) := hg ▸ hw_0 ▸ at_alloc w _
  have hb2 := hb_1
  have hC2 := Kd.C_below hC hb2
  have hD2 := Kd.C_below hD hb2
  have hT2 := hT.below hb2
  have hQl := Kd.C_below hQ_l hb2
  have hQl1 := Kd.C_below hQ_l1 hb2
  have hQl2 := Kd.C_below hQ_l2 hb2
  have HSM : Aside0 (Calls Tryd.prog 12 #[vT idx ep A n c B m d] w2 fun e w' => IsB e ∧ Below w2.heap.size w2 w') := ⟨by
    have := small_calls t.idx t.epoch t.cells A B c t.done.length d w2 hC2
    rw [hidx, hep, hn, hm] at this
    exact this⟩
  have HSHT : Aside0 (∀ (w4 w5 : World) (b5 : Nat), Below w2.heap.size w2 w4 → w5.heap[b5]? = some (.cells #[.slice Q L cq, .slice Q1 L1 cq1, .slice Q2 L2 cq2] 26 (0, 0)) → Below w4.heap.size w4 w5 → Calls Tryd.prog 13 #[.slice (some ⟨b5, 0, none⟩) 3 3] w5 fun e w' => IsBL e (L ≤ 120 ∧ L1 ≤ 120 ∧ L2 ≤ 120) ∧ Below w5.heap.size w5 w') := ⟨fun w4 w5 b5 hb4 h5 hb5 => by
    refine (short2_calls ⟨b5, 0, none⟩ 3 3 w5 (fun i => [L, L1, L2].getD i 0) (by decide) (fun i hi => ?_)).mono (fun e w' h => ⟨by obtain ⟨bb, h1, h2⟩ := h.1.ex; exact ⟨bb, h1, fun hb => ⟨h2 hb 0 (by decide), h2 hb 1 (by decide), h2 hb 2 (by decide)⟩⟩, by obtain ⟨nd, rfl⟩ := h.2; exact pw_below_drewN (Below.refl _ _) nd⟩)
    rw [add_off, Nat.zero_add]
    rcases i with _ | _ | _ | i
    · exact ⟨Q, l, cq, (blk_cell h5 0).trans (by rw [hL]; rfl), Kd.C_below (Kd.C_below hQl hb4) hb5, fun x hx => ⟨(hq_l x hx).key.len, (hq_l x hx).xkey.len⟩, hL⟩
    · exact ⟨Q1, l1, cq1, (blk_cell h5 1).trans (by rw [hL1]; rfl), Kd.C_below (Kd.C_below hQl1 hb4) hb5, fun x hx => ⟨(hq_l1 x hx).key.len, (hq_l1 x hx).xkey.len⟩, hL1⟩
    · exact ⟨Q2, l2, cq2, (blk_cell h5 2).trans (by rw [hL2]; rfl), Kd.C_below (Kd.C_below hQl2 hb4) hb5, fun x hx => ⟨(hq_l2 x hx).key.len, (hq_l2 x hx).xkey.len⟩, hL2⟩
    · omega⟩
  obtain ⟨ck, hck⟩ : ∃ ck, checkP t = ck := ⟨_, rfl⟩
  have HCHK : Aside0 (∀ w' : World, Below w2.heap.size w2 w' → Calls Tryd.prog 14 #[vT idx ep A n c B m d] w' fun e w'' => e = .returned (.int .i64 ck) ∧ Below w'.heap.size w' w'') := ⟨fun w' hb => by
    have := Check_calls t A B c d w' (Kd.C_below hC2 hb) (Kd.C_below hD2 hb) hk (hT2.below hb)
    rw [hidx, hep, hn, hm, hck] at this
    exact this⟩
  have HAW : Aside0 (∀ w' : World, Below w2.heap.size w2 w' → Calls Tryd.prog 15 #[] w' fun e w'' => e = .returned (.bool true) ∧ Below w2.heap.size w2 w'') := ⟨fun w' hb => (awake_calls w' (hT2.below hb)).mono (fun e w'' h => ⟨h.1, below_step hb h.2⟩)⟩
  have HMD : Aside0 (ck = 0 → ∀ (S0 : List (Nat × Sh)) (B0 : List (World → Prop)) (l' : List Dq) (Q' : Option Addr) (cq' : Nat) (w' : World), Fam S0 B0 w2 w' → (∀ S' w'', Fam S' B0 w2 w'' → kQ.C w'' Q' l'.length l') → (∀ k ∈ l', QOk k) → Calls Tryd.prog 16 #[vT idx ep A n c B m d, .slice Q' l'.length cq'] w' fun e w'' => ∃ p, e = .returned (.pointer (some ⟨p, 0, none⟩)) ∧ Fam ((p, madeS t l') :: S0) B0 w2 w'') := ⟨fun h0 S0 B0 l' Q' cq' w' hf hq1 hq2 => by
    have := hf.made t A B Q' c d cq' l' (Kd.C_below hC2 hf.be) (Kd.C_below hD2 hf.be) hq1 hk hq2 (check_ok.1 (hck.trans h0))
    rw [hidx, hep, hn, hm] at this
    exact this⟩
  have HQl : Aside0 (∀ w' : World, Below w2.heap.size w2 w' → kQ.C w' Q l.length l) := ⟨fun w' hb => Kd.C_below hQl hb⟩
  have HQKl := Aside0.mk hq_l
  have HQl1 : Aside0 (∀ w' : World, Below w2.heap.size w2 w' → kQ.C w' Q1 l1.length l1) := ⟨fun w' hb => Kd.C_below hQl1 hb⟩
  have HQKl1 := Aside0.mk hq_l1
  have HQl2 : Aside0 (∀ w' : World, Below w2.heap.size w2 w' → kQ.C w' Q2 l2.length l2) := ⟨fun w' hb => Kd.C_below hQl2 hb⟩
  have HQKl2 := Aside0.mk hq_l2
  have HMADE1 : Aside0 (ck = 0 → ∀ w' : World, Below w2.heap.size w2 w' → Calls Tryd.prog 16 #[vT idx ep A n c B m d, .slice Q L cq] w' fun e w'' => ∃ p, e = .returned (.pointer (some ⟨p, 0, none⟩)) ∧ Fam [(p, madeS t l)] [] w2 w'') := ⟨fun h0 w' hb => hL ▸ HMD.out h0 [] [] l Q cq w' (Fam.empty hb hT2) (fun S' w'' hf => Kd.C_below hQl hf.be) hq_l⟩
  rw [hidx, hep, hn, hm, hL, hL1, hL2]
  have HT2 := Aside0.mk hT2
  have HLENL := Aside0.mk hL
  have HLENL1 := Aside0.mk hL1
  have HLENL2 := Aside0.mk hL2
  have HW_0 := Aside0.mk hw_0
  have HB := Aside0.mk hb2
  have HR := Aside0.mk hR_0_1
  clear hw_0 hb_1 hR_0_1 hb2 hC2 hD2 hT2 hC hD hk hT hck hidx hep hn hm hQl hQ_l hq_l hL hQl1 hQ_l1 hq_l1 hL1 hQl2 hQ_l2 hq_l2 hL2
  by_cases c0 : ck = 0
  case neg =>
    as_aux_lemma =>
      have d0 : (ck != 0) = true := by simpa using c0
      clear HMD HMADE1 c0
      go_enter Tryd.func8, Tryd.ntmps8
      go_upto_region 1 with (fail)
      rw [HW_0.out]
      go_wp2_with (first
          | ((with_reducible refine gate_dst (N := 22) rfl ?_); go_must (refine wpList_seg (P := Tryd.prog) rfl 25 (.tmp 4) rfl g 0 rfl [.int .i64 idx, .int .i64 ep, .slice A n c, .slice B m d] aggTb (SegAt.blk (t := 25) (fr := (0, 0)) HR.out) ?_))
          | (go_at_call 12; refine HSM.out.mono ?_; rintro e w3 ⟨⟨⟨bb, rfl⟩⟩, hb3⟩; have HB3 := Aside0.mk hb3; clear hb3; cases bb)
          | ((with_reducible refine gate_dst (N := 29) rfl ?_); refine gate_guard (by rfl) ?_; obtain ⟨b5, w5, hr5, ha5, hb5⟩ := lit_three w3 Q Q1 Q2 L cq L1 cq1 L2 cq2; have HA5 := Aside0.mk ha5; have HC5 := Aside0.mk hb5; have HB5 := Aside0.mk (below_step HB3.out hb5); go_must (refine Kd.event_run rfl (exec_lit3 (P := Tryd.prog) 93 (.tmp 26) (.tmp 27) (.tmp 28) rfl rfl rfl rfl hr5) ?_); clear hr5 ha5 hb5)
          | (go_at_call 13; refine (HSHT.out w3 w5 b5 HB3.out HA5.out HC5.out).mono ?_; rintro e w6 ⟨⟨⟨bc, rfl, hlb⟩⟩, hb6⟩; have HB6 := Aside0.mk (below_step HB5.out hb6); have HLB := Aside0.mk hlb; clear hlb; clear hb6; cases bc)
          | ((with_reducible refine gate_dst (N := 34) rfl ?_); refine gate_guard (by rfl) ?_; go_must (refine wpList_seg (P := Tryd.prog) rfl 25 (.tmp 4) rfl g 0 rfl [.int .i64 idx, .int .i64 ep, .slice A n c, .slice B m d] aggTb (SegAt.blk (t := 25) (fr := (0, 0)) (blk_below HR.out HB6.out)) ?_))
          | (go_at_call 14; refine (HCHK.out w6 HB6.out).mono ?_; rintro e w7 ⟨rfl, hb7⟩; have HB7 := Aside0.mk (below_step HB6.out hb7); clear hb7)
          | (go_at_call 15; refine (HAW.out _ HB7.out).mono ?_; rintro e w9 ⟨rfl, hb9⟩)
          | (go_at_call 15; refine (HAW.out _ HB6.out).mono ?_; rintro e w9 ⟨rfl, hb9⟩)
          | (go_at_call 15; refine (HAW.out _ HB3.out).mono ?_; rintro e w9 ⟨rfl, hb9⟩))
      all_goals go_ret
      all_goals exact ⟨rfl, by first | exact below_then HB.out HB.out.size hb9 | exact hg ▸ below_then HB.out HB.out.size hb9⟩
  have d0 : (ck != 0) = false := by simpa using c0
  have HM2 := Aside0.mk (HMD.out c0)
  have HM1 := Aside0.mk (HMADE1.out c0)
  clear HMD HMADE1 c0
  go_enter Tryd.func8, Tryd.ntmps8
  go_upto_region 1 with (fail)
  rw [HW_0.out]
  go_upto_region 3 with (first
          | ((with_reducible refine gate_dst (N := 22) rfl ?_); go_must (refine wpList_seg (P := Tryd.prog) rfl 25 (.tmp 4) rfl g 0 rfl [.int .i64 idx, .int .i64 ep, .slice A n c, .slice B m d] aggTb (SegAt.blk (t := 25) (fr := (0, 0)) HR.out) ?_))
          | (go_at_call 12; refine HSM.out.mono ?_; rintro e w3 ⟨⟨⟨bb, rfl⟩⟩, hb3⟩; have HB3 := Aside0.mk hb3; clear hb3; cases bb)
          | ((with_reducible refine gate_dst (N := 29) rfl ?_); refine gate_guard (by rfl) ?_; obtain ⟨b5, w5, hr5, ha5, hb5⟩ := lit_three w3 Q Q1 Q2 L cq L1 cq1 L2 cq2; have HA5 := Aside0.mk ha5; have HC5 := Aside0.mk hb5; have HB5 := Aside0.mk (below_step HB3.out hb5); go_must (refine Kd.event_run rfl (exec_lit3 (P := Tryd.prog) 93 (.tmp 26) (.tmp 27) (.tmp 28) rfl rfl rfl rfl hr5) ?_); clear hr5 ha5 hb5)
          | (go_at_call 13; refine (HSHT.out w3 w5 b5 HB3.out HA5.out HC5.out).mono ?_; rintro e w6 ⟨⟨⟨bc, rfl, hlb⟩⟩, hb6⟩; have HB6 := Aside0.mk (below_step HB5.out hb6); have HLB := Aside0.mk hlb; clear hlb; clear hb6; cases bc)
          | ((with_reducible refine gate_dst (N := 34) rfl ?_); refine gate_guard (by rfl) ?_; go_must (refine wpList_seg (P := Tryd.prog) rfl 25 (.tmp 4) rfl g 0 rfl [.int .i64 idx, .int .i64 ep, .slice A n c, .slice B m d] aggTb (SegAt.blk (t := 25) (fr := (0, 0)) (blk_below HR.out HB6.out)) ?_))
          | (go_at_call 14; refine (HCHK.out w6 HB6.out).mono ?_; rintro e w7 ⟨rfl, hb7⟩; have HB7 := Aside0.mk (below_step HB6.out hb7); clear hb7)
          | (go_at_call 15; refine (HAW.out _ HB6.out).mono ?_; rintro e w9 ⟨rfl, hb9⟩)
          | (go_at_call 15; refine (HAW.out _ HB3.out).mono ?_; rintro e w9 ⟨rfl, hb9⟩))
  · go_ret
    exact ⟨rfl, by first | exact below_then HB.out HB.out.size hb9 | exact hg ▸ below_then HB.out HB.out.size hb9⟩
  · go_ret
    exact ⟨rfl, by first | exact below_then HB.out HB.out.size hb9 | exact hg ▸ below_then HB.out HB.out.size hb9⟩
  clear HSM HSHT HCHK HA5 HB5 HC5 HB6 HB3 d0 HW_0
  go_upto_region 4 with (first
      | ((with_reducible refine gate_dst (N := 39) rfl ?_); go_must (refine wpList_seg (P := Tryd.prog) rfl 25 (.tmp 4) rfl g 0 rfl [.int .i64 idx, .int .i64 ep, .slice A n c, .slice B m d] aggTb (SegAt.blk (t := 25) (fr := (0, 0)) (blk_below HR.out HB7.out)) ?_))
      | (go_at_call 16; refine (HM1.out w7 HB7.out).mono ?_; rintro e w8 ⟨p, rfl, hf8⟩; have HF8 := Aside0.mk hf8; clear hf8))
  obtain ⟨s, hs⟩ : ∃ s, madeS t l = s := ⟨_, rfl⟩
  rw [hs] at HF8
  have HS := Aside0.mk hs
  clear hs HM1 HB7
  have HWK := Aside0.mk (HF8.out.wfd (p := p) (s := s) (by simp))
  have HLN : Aside0 (L ≤ 120 ∧ L1 ≤ 120 ∧ L2 ≤ 120) := ⟨by have := HLB.out; simpa using this⟩
  obtain ⟨lx, hlx⟩ : ∃ lx, l ++ l1 = lx := ⟨_, rfl⟩
  obtain ⟨ly, hly⟩ : ∃ ly, l ++ l2 = ly := ⟨_, rfl⟩
  obtain ⟨sx, hsx⟩ : ∃ sx, madeS t lx = sx := ⟨_, rfl⟩
  obtain ⟨sy, hsy⟩ : ∃ sy, madeS t ly = sy := ⟨_, rfl⟩
  have HSX : Aside0 (l1.foldl nextS s = sx) := ⟨by rw [← hsx, ← hlx, made_append, HS.out]⟩
  have HSY : Aside0 (l2.foldl nextS s = sy) := ⟨by rw [← hsy, ← hly, made_append, HS.out]⟩
  have HQX : Aside0 (∀ k ∈ lx, QOk k) := ⟨fun k hk => by rw [← hlx] at hk; exact (List.mem_append.1 hk).elim (HQKl.out k) (HQKl1.out k)⟩
  have HQY : Aside0 (∀ k ∈ ly, QOk k) := ⟨fun k hk => by rw [← hly] at hk; exact (List.mem_append.1 hk).elim (HQKl.out k) (HQKl2.out k)⟩
  have HCL : Aside0 (Calls Tryd.prog 38 #[.pointer (some ⟨p, 0, none⟩)] w8 fun e w' => ∃ q, e = .returned (.pointer (some ⟨q, 0, none⟩)) ∧ Fam [(q, s), (p, s)] [] w2 w') := ⟨(HF8.out.clone (p := p) (s := s) (by simp)).mono (fun e w' ⟨q, h1, h2, _⟩ => ⟨q, h1, h2⟩)⟩
  have HCLQ : Aside0 (∀ w' : World, Below w2.heap.size w2 w' → Calls Tryd.prog 40 #[.slice Q L cq] w' fun e w'' => ∃ v, e = .returned v ∧ Kd.N kQ 34 w'' w'.heap.size (fun _ => True) v l ∧ Below w'.heap.size w' w'') := ⟨fun w' hb => HLENL.out ▸ CloneQ_calls Q cq l w' (HQl.out w' hb) HCAP.out (by have := HLN.out.1; have := HLENL.out; omega)⟩
  have HF1 : Aside0 (∀ w' : World, Below w2.heap.size w2 w' → Kd.F kQ w' (fun k => k < w2.heap.size) Q1 L1 l1) := ⟨fun w' hb => HLENL1.out ▸ Kd.F_below (Kd.C_F heapQ (HQl1.out w2 (Below.refl _ _))) hb⟩
  have HF2 : Aside0 (∀ w' : World, Below w2.heap.size w2 w' → Kd.F kQ w' (fun k => k < w2.heap.size) Q2 L2 l2) := ⟨fun w' hb => HLENL2.out ▸ Kd.F_below (Kd.C_F heapQ (HQl2.out w2 (Below.refl _ _))) hb⟩
  have HLXY : Aside0 (l ++ l1 = lx ∧ l ++ l2 = ly) := ⟨⟨hlx, hly⟩⟩
  have HL1 : Aside0 ((l.length + L1) * 136 ≤ 140737488355328 ∧ (l.length + L2) * 136 ≤ 140737488355328) := ⟨by have := HLN.out; have := HLENL.out; omega⟩
  have HMX : Aside0 (∀ (w' : World) (S : List (Nat × Sh)) (B' : List (World → Prop)) (A' : Option Addr) (c' : Nat), Fam S ((fun W => kQ.C W A' lx.length lx) :: B') w2 w' → Calls Tryd.prog 16 #[vT idx ep A n c B m d, .slice A' lx.length c'] w' fun e w'' => ∃ x, e = .returned (.pointer (some ⟨x, 0, none⟩)) ∧ Fam ((x, sx) :: S) ((fun W => kQ.C W A' lx.length lx) :: B') w2 w'') := ⟨fun w' S B' A' c' hf => hsx ▸ HM2.out S _ lx A' c' w' hf (fun S' w'' hf' => hf'.get (P := fun W => kQ.C W A' lx.length lx) (List.mem_cons_self ..)) HQX.out⟩
  have HMY : Aside0 (∀ (w' : World) (S : List (Nat × Sh)) (B' : List (World → Prop)) (A' : Option Addr) (c' : Nat), Fam S ((fun W => kQ.C W A' ly.length ly) :: B') w2 w' → Calls Tryd.prog 16 #[vT idx ep A n c B m d, .slice A' ly.length c'] w' fun e w'' => ∃ x, e = .returned (.pointer (some ⟨x, 0, none⟩)) ∧ Fam ((x, sy) :: S) ((fun W => kQ.C W A' ly.length ly) :: B') w2 w'') := ⟨fun w' S B' A' c' hf => hsy ▸ HM2.out S _ ly A' c' w' hf (fun S' w'' hf' => hf'.get (P := fun W => kQ.C W A' ly.length ly) (List.mem_cons_self ..)) HQY.out⟩
  clear hlx hly hsx hsy
  go_upto_region 5 with (go_at_call 38; refine HCL.out.mono ?_; rintro e w9 ⟨q, rfl, hf9⟩; have HF9 := Aside0.mk hf9; clear hf9)
  have HF9d := Aside0.mk (HF9.out.below (below_drew1 (Below.refl _ _)))
  clear HCL HF8
  refine start_ (n := 14) (S := fun w' => w'.heap[g]? = some (.cells [.int .i64 idx, .int .i64 ep, .slice A n c, .slice B m d].toArray 25 (0, 0))) (ds := []) #[false, false, false, false, false, false, false, false, false, false, false, false, false, false] (by kernel_rfl) rfl rfl (blk_below HR.out HF9d.out.be) (fun hHeld => ?_)
  refine pure_ (i := 1) (N := some 45) (v := ?_) (a' := ?_) #[false, true, false, false, false, false, false, false, false, false, false, false, false, false] rfl rfl (by kernel_rfl) (fun _ _ _ h => h) (Or.inl ⟨by rfl, ?_⟩) ?_ ?_
  rotate_left
  · intro w'
    go_simp
    with_reducible rfl
  rotate_left
  · simp only [Act.put, List.setIfInBounds_toArray, List.set_cons_zero, List.set_cons_succ, i64_w, i32_w]
    rfl
  refine pure_ (i := 3) (N := some 47) (v := ?_) (a' := ?_) #[false, true, false, true, false, false, false, false, false, false, false, false, false, false] rfl rfl (by kernel_rfl) (fun _ _ _ h => h) (Or.inl ⟨by rfl, ?_⟩) ?_ ?_
  rotate_left
  · intro w'
    go_simp
    with_reducible rfl
  rotate_left
  · simp only [Act.put, List.setIfInBounds_toArray, List.set_cons_zero, List.set_cons_succ, i64_w, i32_w]
    rfl
  refine pure_ (i := 7) (N := some 51) (v := ?_) (a' := ?_) #[false, true, false, true, false, false, false, true, false, false, false, false, false, false] rfl rfl (by kernel_rfl) (fun _ _ _ h => h) (Or.inl ⟨by rfl, ?_⟩) ?_ ?_
  rotate_left
  · intro w'
    go_simp
    with_reducible rfl
  rotate_left
  · simp only [Act.put, List.setIfInBounds_toArray, List.set_cons_zero, List.set_cons_succ, i64_w, i32_w]
    rfl
  refine pure_ (i := 9) (N := some 53) (v := ?_) (a' := ?_) #[false, true, false, true, false, false, false, true, false, true, false, false, false, false] rfl rfl (by kernel_rfl) (fun _ _ _ h => h) (Or.inl ⟨by rfl, ?_⟩) ?_ ?_
  rotate_left
  · intro w'
    go_simp
    with_reducible rfl
  rotate_left
  · simp only [Act.put, List.setIfInBounds_toArray, List.set_cons_zero, List.set_cons_succ, i64_w, i32_w]
    rfl
  refine take_ (i := 0) (N := some 44) (v := ?_) (a' := ?_) #[true, true, false, true, false, false, false, true, false, true, false, false, false, false] rfl rfl (by kernel_rfl) (fun _ _ _ h => h) (Or.inl ⟨by rfl, ?_⟩) hHeld ?_ ?_
  rotate_left
  · intro w' s0
    refine Eq.trans (exec_seg (P := Tryd.prog) 25 (.tmp 4) rfl g 0 rfl [.int .i64 idx, .int .i64 ep, .slice A n c, .slice B m d] aggTb (SegAt.blk (t := 25) (fr := (0, 0)) s0)) ?_
    with_reducible rfl
  rotate_left
  · simp only [Act.put, List.setIfInBounds_toArray, List.set_cons_zero, List.set_cons_succ, i64_w, i32_w]
    rfl
  refine take_ (i := 6) (N := some 50) (v := ?_) (a' := ?_) #[true, true, false, true, false, false, true, true, false, true, false, false, false, false] rfl rfl (by kernel_rfl) (fun _ _ _ h => h) (Or.inl ⟨by rfl, ?_⟩) hHeld ?_ ?_
  rotate_left
  · intro w' s0
    refine Eq.trans (exec_seg (P := Tryd.prog) 25 (.tmp 4) rfl g 0 rfl [.int .i64 idx, .int .i64 ep, .slice A n c, .slice B m d] aggTb (SegAt.blk (t := 25) (fr := (0, 0)) s0)) ?_
    with_reducible rfl
  rotate_left
  · simp only [Act.put, List.setIfInBounds_toArray, List.set_cons_zero, List.set_cons_succ, i64_w, i32_w]
    rfl
  refine one_ (i := 2) (N := some 46) #[true, true, true, true, false, false, true, true, false, true, false, false, false, false] rfl rfl (by kernel_rfl) (by decide) (fun K hK => ?_)
  refine goes_ Tryd.func40 (by kernel_rfl) rfl #[.slice Q L cq] (by rfl) rfl rfl (by first | rfl | (simp; done) | (simp only [List.map_toArray, List.map_cons, List.map_nil]; rfl)) ?_
  with_reducible refine (HCLQ.out _ HF9d.out.be).mono ?_
  rintro e w12a ⟨v12, rfl, hn12, hb12⟩
  refine ⟨_, rfl, ?_⟩
  have HN12 := Aside0.mk hn12
  have HB12 := Aside0.mk hb12
  have HE12 := Aside0.mk (below_step HF9d.out.be hb12)
  clear hn12 hb12
  refine hK.out _ _ (blk_below HR.out HE12.out) (fun hHeld => ?_)
  clear hK K
  refine norm_ (a' := ?_) ?_ ?_
  rotate_left
  · show Act.put _ (some 46) _ = _
    simp only [Act.put, List.setIfInBounds_toArray, List.set_cons_zero, List.set_cons_succ, i64_w, i32_w]
    rfl
  refine one_ (i := 4) (N := some 48) #[true, true, true, true, true, false, true, true, false, true, false, false, false, false] rfl rfl (by kernel_rfl) (by decide) (fun K hK => ?_)
  refine Kd.N_append_rows_step kQ (w0 := w9.drew) w9.drew.heap.size (by rfl) (.tmp 46) (.tmp 47) 26 34 _ 136 rfl Tryd.underlying26 infoQ rfl (by decide) (by decide) v12 l l1 Q1 L1 cq1 (fun _ => True) (fun k => k < w2.heap.size) rfl rfl HN12.out (HF1.out _ HE12.out) (fun k hk => ⟨trivial, fun he => by have h1_ := Kd.N_base HN12.out k he.symm; have h2_ := HF9d.out.be.size; omega⟩) (fun _ _ => trivial) HB12.out HB12.out.size HL1.out.1 ?_
  intro vv ww hn hb hg_ hat_
  rw [HLXY.out.1] at hn
  obtain ⟨A12, c12, rfl, hft⟩ := N_footQ hn
  have HG12 := Aside0.mk (HF9d.out.more hb hft)
  clear hn hb hg_ hat_ hft HN12 HB12 HE12
  refine hK.out _ _ (blk_below HR.out HG12.out.be) (fun hHeld => ?_)
  clear hK K
  refine norm_ (a' := ?_) ?_ ?_
  rotate_left
  · show Act.put _ (some 48) _ = _
    simp only [Act.put, List.setIfInBounds_toArray, List.set_cons_zero, List.set_cons_succ, i64_w, i32_w]
    rfl
  refine one_ (i := 5) (N := some 49) #[true, true, true, true, true, true, true, true, false, true, false, false, false, false] rfl rfl (by kernel_rfl) (by decide) (fun K hK => ?_)
  refine goes_ Tryd.func16 (by kernel_rfl) rfl #[vT idx ep A n c B m d, .slice A12 lx.length c12] (by rfl) rfl rfl (by first | rfl | (simp; done) | (simp only [List.map_toArray, List.map_cons, List.map_nil]; rfl)) ?_
  with_reducible refine (HMX.out _ _ _ A12 c12 HG12.out).mono ?_
  rintro e w12c ⟨x, rfl, hf12⟩
  refine ⟨_, rfl, ?_⟩
  have HF12 := Aside0.mk hf12
  clear hf12
  refine hK.out _ _ (blk_below HR.out HF12.out.be) (fun hHeld => ?_)
  clear hK K
  refine norm_ (a' := ?_) ?_ ?_
  rotate_left
  · show Act.put _ (some 49) _ = _
    simp only [Act.put, List.setIfInBounds_toArray, List.set_cons_zero, List.set_cons_succ, i64_w, i32_w]
    rfl
  refine one_ (i := 8) (N := some 52) #[true, true, true, true, true, true, true, true, true, true, false, false, false, false] rfl rfl (by kernel_rfl) (by decide) (fun K hK => ?_)
  refine goes_ Tryd.func40 (by kernel_rfl) rfl #[.slice Q L cq] (by rfl) rfl rfl (by first | rfl | (simp; done) | (simp only [List.map_toArray, List.map_cons, List.map_nil]; rfl)) ?_
  with_reducible refine (HCLQ.out _ HF12.out.be).mono ?_
  rintro e w15a ⟨v15, rfl, hn15, hb15⟩
  refine ⟨_, rfl, ?_⟩
  have HN15 := Aside0.mk hn15
  have HB15 := Aside0.mk hb15
  have HE15 := Aside0.mk (below_step HF12.out.be hb15)
  clear hn15 hb15
  refine hK.out _ _ (blk_below HR.out HE15.out) (fun hHeld => ?_)
  clear hK K
  refine norm_ (a' := ?_) ?_ ?_
  rotate_left
  · show Act.put _ (some 52) _ = _
    simp only [Act.put, List.setIfInBounds_toArray, List.set_cons_zero, List.set_cons_succ, i64_w, i32_w]
    rfl
  refine one_ (i := 10) (N := some 54) #[true, true, true, true, true, true, true, true, true, true, true, false, false, false] rfl rfl (by kernel_rfl) (by decide) (fun K hK => ?_)
  refine Kd.N_append_rows_step kQ (w0 := w12c) w12c.heap.size (by rfl) (.tmp 52) (.tmp 53) 26 34 _ 136 rfl Tryd.underlying26 infoQ rfl (by decide) (by decide) v15 l l2 Q2 L2 cq2 (fun _ => True) (fun k => k < w2.heap.size) rfl rfl HN15.out (HF2.out _ HE15.out) (fun k hk => ⟨trivial, fun he => by have h1_ := Kd.N_base HN15.out k he.symm; have h2_ := HF12.out.be.size; omega⟩) (fun _ _ => trivial) HB15.out HB15.out.size HL1.out.2 ?_
  intro vv ww hn hb hg_ hat_
  rw [HLXY.out.2] at hn
  obtain ⟨A15, c15, rfl, hft⟩ := N_footQ hn
  have HG15 := Aside0.mk (HF12.out.more hb hft)
  clear hn hb hg_ hat_ hft HN15 HB15 HE15
  refine hK.out _ _ (blk_below HR.out HG15.out.be) (fun hHeld => ?_)
  clear hK K
  refine norm_ (a' := ?_) ?_ ?_
  rotate_left
  · show Act.put _ (some 54) _ = _
    simp only [Act.put, List.setIfInBounds_toArray, List.set_cons_zero, List.set_cons_succ, i64_w, i32_w]
    rfl
  refine one_ (i := 11) (N := some 55) #[true, true, true, true, true, true, true, true, true, true, true, true, false, false] rfl rfl (by kernel_rfl) (by decide) (fun K hK => ?_)
  refine goes_ Tryd.func16 (by kernel_rfl) rfl #[vT idx ep A n c B m d, .slice A15 ly.length c15] (by rfl) rfl rfl (by first | rfl | (simp; done) | (simp only [List.map_toArray, List.map_cons, List.map_nil]; rfl)) ?_
  with_reducible refine (HMY.out _ _ _ A15 c15 HG15.out).mono ?_
  rintro e w15c ⟨y, rfl, hf15⟩
  refine ⟨_, rfl, ?_⟩
  have HF15 := Aside0.mk hf15
  clear hf15
  refine hK.out _ _ (blk_below HR.out HF15.out.be) (fun hHeld => ?_)
  clear hK K
  refine norm_ (a' := ?_) ?_ ?_
  rotate_left
  · show Act.put _ (some 55) _ = _
    simp only [Act.put, List.setIfInBounds_toArray, List.set_cons_zero, List.set_cons_succ, i64_w, i32_w]
    rfl
  refine pure_ (i := 12) (N := some 11) (v := ?_) (a' := ?_) #[true, true, true, true, true, true, true, true, true, true, true, true, true, false] rfl rfl (by kernel_rfl) (fun _ _ _ h => h) (Or.inl ⟨by rfl, ?_⟩) ?_ ?_
  rotate_left
  · intro w'
    go_simp
    with_reducible rfl
  rotate_left
  · simp only [Act.put, List.setIfInBounds_toArray, List.set_cons_zero, List.set_cons_succ, i64_w, i32_w]
    rfl
  refine pure_ (i := 13) (N := some 12) (v := ?_) (a' := ?_) #[true, true, true, true, true, true, true, true, true, true, true, true, true, true] rfl rfl (by kernel_rfl) (fun _ _ _ h => h) (Or.inl ⟨by rfl, ?_⟩) ?_ ?_
  rotate_left
  · intro w'
    go_simp
    with_reducible rfl
  rotate_left
  · simp only [Act.put, List.setIfInBounds_toArray, List.set_cons_zero, List.set_cons_succ, i64_w, i32_w]
    rfl
  refine done_ (by kernel_rfl) ?_
  have HFi := HF15
  have HF0 := Aside0.mk (HFi.out.drop (B' := []) (List.Sublist.refl _) (fun _ h => (List.not_mem_nil h).elim))
  clear HFi HF9d HF9 HF15 HMX HMY HCLQ HF1 HF2 HM2
  obtain ⟨mx, hmx⟩ : ∃ mx, max L1 L2 = mx := ⟨_, rfl⟩
  have HMX2 : Aside0 (∀ j, j < mx → j < L1 ∨ j < L2) := ⟨fun j h => by omega⟩
  have hmx1 : max (L1 : Int) (L2 : Int) = (mx : Int) := by omega
  have HMXX : Aside0 (L1 ≤ mx ∧ L2 ≤ mx ∧ mx ≤ 120) := ⟨by have := HLN.out; omega⟩
  clear hmx
  have HDP : Aside0 (∀ (w' : World) (sq sp : Sh) (k : Dq) (qs : List Value), QOk k → encQ k = qs → Fam [(y, sy), (x, sx), (q, sq), (p, sp)] [] w2 w' → Calls Tryd.prog 31 #[.pointer (some ⟨p, 0, none⟩), .agg qs.toArray] w' fun e w'' => (∃ u v, e = .returned (.tuple #[u, v])) ∧ Fam [(y, sy), (x, sx), (q, sq), (p, nextS sp k)] [] w2 w'') := ⟨fun w' sq sp k qs hk hqs hf => hqs ▸ (hf.does (S1 := [(y, sy), (x, sx), (q, sq)]) (S2 := []) k hk).mono (fun e w'' h => ⟨⟨_, _, h.1⟩, h.2⟩)⟩
  have HDQ : Aside0 (∀ (w' : World) (sq sp : Sh) (k : Dq) (qs : List Value), QOk k → encQ k = qs → Fam [(y, sy), (x, sx), (q, sq), (p, sp)] [] w2 w' → Calls Tryd.prog 31 #[.pointer (some ⟨q, 0, none⟩), .agg qs.toArray] w' fun e w'' => (∃ u v, e = .returned (.tuple #[u, v])) ∧ Fam [(y, sy), (x, sx), (q, nextS sq k), (p, sp)] [] w2 w'') := ⟨fun w' sq sp k qs hk hqs hf => hqs ▸ (hf.does (S1 := [(y, sy), (x, sx)]) (S2 := [(p, sp)]) k hk).mono (fun e w'' h => ⟨⟨_, _, h.1⟩, h.2⟩)⟩
  go_upto_region 7 with (fail)
  go_loopw [61] (fun v61 wr => ∃ j : Nat, j ≤ mx ∧ v61 = .int .i64 (j : Int) ∧ Aside0 (Fam [(y, sy), (x, sx), (q, (l2.take j).foldl nextS s), (p, (l1.take j).foldl nextS s)] [] w2 wr)) (fun v61 _ => mx - (intOf v61).toNat)
  case atStart => exact ⟨0, Nat.zero_le _, rfl, HF0⟩
  case round =>
    obtain ⟨j, hj, rfl, HFr⟩ := hrel
    by_cases e1 : j < mx
    · have e1' : decide ((j : Int) < (mx : Int)) = true := decide_eq_true (by omega)
      have HWJ : Aside0 (wrap64 ((j : Int) + 1) = (j : Int) + 1) := ⟨by have := HMXX.out; unfold wrap64; omega⟩
      by_cases c1 : j < L1
      · by_cases c2 : j < L2
        · as_aux_lemma =>
            have d1 : decide ((j : Int) < (L1 : Int)) = true := decide_eq_true (by omega)
            have d2 : decide ((j : Int) < (L2 : Int)) = true := decide_eq_true (by omega)
            have hj1 : j < l1.length := by rw [HLENL1.out]; exact c1
            obtain ⟨ad1, hA1, hl1, hcell1⟩ := C_cellsQ (HQl1.out wr HFr.out.be) j hj1
            subst hA1
            obtain ⟨k1, hk1⟩ : ∃ k1, l1[j] = k1 := ⟨_, rfl⟩
            rw [hk1] at hl1 hcell1
            have HSN1 : Aside0 ((l1.take (j + 1)).foldl nextS s = nextS ((l1.take j).foldl nextS s) k1) := ⟨go_snoc (by rw [List.getElem?_eq_getElem hj1, hk1])⟩
            have HK1 : Aside0 (QOk k1) := ⟨HQKl1.out k1 (hk1 ▸ List.getElem_mem hj1)⟩
            obtain ⟨qs1, hqs1⟩ : ∃ qs1, encQ k1 = qs1 := ⟨_, rfl⟩
            rw [hqs1] at hl1 hcell1
            have HQ1 := Aside0.mk hqs1
            have HLq1 := Aside0.mk hl1
            have HCell1 := Aside0.mk hcell1
            clear hj1 hl1 hcell1 hk1 hqs1
            have hj2 : j < l2.length := by rw [HLENL2.out]; exact c2
            obtain ⟨k2, hk2⟩ : ∃ k2, l2[j] = k2 := ⟨_, rfl⟩
            obtain ⟨ad2, hA2⟩ : ∃ ad2, Q2 = some ad2 := by obtain ⟨ad2, hA2, _⟩ := C_cellsQ (HQl2.out wr HFr.out.be) j hj2; exact ⟨ad2, hA2⟩
            subst hA2
            have HSN2 : Aside0 ((l2.take (j + 1)).foldl nextS s = nextS ((l2.take j).foldl nextS s) k2) := ⟨go_snoc (by rw [List.getElem?_eq_getElem hj2, hk2])⟩
            have HK2 : Aside0 (QOk k2) := ⟨HQKl2.out k2 (hk2 ▸ List.getElem_mem hj2)⟩
            obtain ⟨qs2, hqs2⟩ : ∃ qs2, encQ k2 = qs2 := ⟨_, rfl⟩
            have HQ2 := Aside0.mk hqs2
            have HLq2 : Aside0 (qs2.length = 29) := ⟨by obtain ⟨_, _, h, _⟩ := C_cellsQ (HQl2.out wr HFr.out.be) j hj2; rw [hk2, hqs2] at h; exact h⟩
            have HCell2 : Aside0 (∀ w' : World, Below w2.heap.size w2 w' → ∀ i v, qs2[i]? = some v → w'.cell? ((ad2.add (j * 29)).add i) = some v) := ⟨fun w' hb => by obtain ⟨ad3, e3, _, h⟩ := C_cellsQ (HQl2.out w' hb) j hj2; injection e3 with e3; subst e3; rw [hk2, hqs2] at h; exact h⟩
            clear hj2 hk2 hqs2
            go_wp2_with (first
                          | ((with_reducible refine gate_dst (N := 82) rfl ?_); go_must (refine wpList_at (P := Tryd.prog) rfl 34 (.tmp 81) rfl (ad2.add (j * 29)) rfl qs2 (by rw [HLq2.out]; exact aggDo) (HCell2.out w16 HF16.out.be) ?_))
                          | (go_at_call 31; refine (HDQ.out w16 _ _ k2 qs2 HK2.out HQ2.out HF16.out).mono ?_; rintro e w17 ⟨⟨z1, z2, rfl⟩, hf17⟩; have HF17 := Aside0.mk hf17; clear hf17)
                          | ((with_reducible refine gate_dst (N := 72) rfl ?_); go_must (refine wpList_at (P := Tryd.prog) rfl 34 (.tmp 71) rfl (ad1.add (j * 29)) rfl qs1 (by rw [HLq1.out]; exact aggDo) HCell1.out ?_))
                          | (go_at_call 31; refine (HDP.out wr _ _ k1 qs1 HK1.out HQ1.out HFr.out).mono ?_; rintro e w16 ⟨⟨y1, y2, rfl⟩, hf16⟩; have HF16 := Aside0.mk hf16; clear hf16))
            rw [HWJ.out]
            exact ⟨⟨j + 1, by omega, by push_cast; rfl, ⟨by rw [HSN1.out, HSN2.out]; exact HF17.out⟩⟩, by simp [intOf]; omega⟩
        · as_aux_lemma =>
            have d1 : decide ((j : Int) < (L1 : Int)) = true := decide_eq_true (by omega)
            have d2 : decide ((j : Int) < (L2 : Int)) = false := decide_eq_false (by omega)
            have hj1 : j < l1.length := by rw [HLENL1.out]; exact c1
            obtain ⟨ad1, hA1, hl1, hcell1⟩ := C_cellsQ (HQl1.out wr HFr.out.be) j hj1
            subst hA1
            obtain ⟨k1, hk1⟩ : ∃ k1, l1[j] = k1 := ⟨_, rfl⟩
            rw [hk1] at hl1 hcell1
            have HSN1 : Aside0 ((l1.take (j + 1)).foldl nextS s = nextS ((l1.take j).foldl nextS s) k1) := ⟨go_snoc (by rw [List.getElem?_eq_getElem hj1, hk1])⟩
            have HK1 : Aside0 (QOk k1) := ⟨HQKl1.out k1 (hk1 ▸ List.getElem_mem hj1)⟩
            obtain ⟨qs1, hqs1⟩ : ∃ qs1, encQ k1 = qs1 := ⟨_, rfl⟩
            rw [hqs1] at hl1 hcell1
            have HQ1 := Aside0.mk hqs1
            have HLq1 := Aside0.mk hl1
            have HCell1 := Aside0.mk hcell1
            clear hj1 hl1 hcell1 hk1 hqs1
            have HSN2 : Aside0 ((l2.take (j + 1)).foldl nextS s = (l2.take j).foldl nextS s) := ⟨take_next (by rw [HLENL2.out]; omega)⟩
            go_wp2_with (first
                          | ((with_reducible refine gate_dst (N := 72) rfl ?_); go_must (refine wpList_at (P := Tryd.prog) rfl 34 (.tmp 71) rfl (ad1.add (j * 29)) rfl qs1 (by rw [HLq1.out]; exact aggDo) HCell1.out ?_))
                          | (go_at_call 31; refine (HDP.out wr _ _ k1 qs1 HK1.out HQ1.out HFr.out).mono ?_; rintro e w16 ⟨⟨y1, y2, rfl⟩, hf16⟩; have HF16 := Aside0.mk hf16; clear hf16))
            rw [HWJ.out]
            exact ⟨⟨j + 1, by omega, by push_cast; rfl, ⟨by rw [HSN1.out, HSN2.out]; exact HF16.out⟩⟩, by simp [intOf]; omega⟩
      · by_cases c2 : j < L2
        · as_aux_lemma =>
            have d1 : decide ((j : Int) < (L1 : Int)) = false := decide_eq_false (by omega)
            have d2 : decide ((j : Int) < (L2 : Int)) = true := decide_eq_true (by omega)
            have HSN1 : Aside0 ((l1.take (j + 1)).foldl nextS s = (l1.take j).foldl nextS s) := ⟨take_next (by rw [HLENL1.out]; omega)⟩
            have hj2 : j < l2.length := by rw [HLENL2.out]; exact c2
            obtain ⟨k2, hk2⟩ : ∃ k2, l2[j] = k2 := ⟨_, rfl⟩
            obtain ⟨ad2, hA2⟩ : ∃ ad2, Q2 = some ad2 := by obtain ⟨ad2, hA2, _⟩ := C_cellsQ (HQl2.out wr HFr.out.be) j hj2; exact ⟨ad2, hA2⟩
            subst hA2
            have HSN2 : Aside0 ((l2.take (j + 1)).foldl nextS s = nextS ((l2.take j).foldl nextS s) k2) := ⟨go_snoc (by rw [List.getElem?_eq_getElem hj2, hk2])⟩
            have HK2 : Aside0 (QOk k2) := ⟨HQKl2.out k2 (hk2 ▸ List.getElem_mem hj2)⟩
            obtain ⟨qs2, hqs2⟩ : ∃ qs2, encQ k2 = qs2 := ⟨_, rfl⟩
            have HQ2 := Aside0.mk hqs2
            have HLq2 : Aside0 (qs2.length = 29) := ⟨by obtain ⟨_, _, h, _⟩ := C_cellsQ (HQl2.out wr HFr.out.be) j hj2; rw [hk2, hqs2] at h; exact h⟩
            have HCell2 : Aside0 (∀ w' : World, Below w2.heap.size w2 w' → ∀ i v, qs2[i]? = some v → w'.cell? ((ad2.add (j * 29)).add i) = some v) := ⟨fun w' hb => by obtain ⟨ad3, e3, _, h⟩ := C_cellsQ (HQl2.out w' hb) j hj2; injection e3 with e3; subst e3; rw [hk2, hqs2] at h; exact h⟩
            clear hj2 hk2 hqs2
            go_wp2_with (first
                          | ((with_reducible refine gate_dst (N := 82) rfl ?_); go_must (refine wpList_at (P := Tryd.prog) rfl 34 (.tmp 81) rfl (ad2.add (j * 29)) rfl qs2 (by rw [HLq2.out]; exact aggDo) (HCell2.out wr HFr.out.be) ?_))
                          | (go_at_call 31; refine (HDQ.out wr _ _ k2 qs2 HK2.out HQ2.out HFr.out).mono ?_; rintro e w17 ⟨⟨z1, z2, rfl⟩, hf17⟩; have HF17 := Aside0.mk hf17; clear hf17))
            rw [HWJ.out]
            exact ⟨⟨j + 1, by omega, by push_cast; rfl, ⟨by rw [HSN1.out, HSN2.out]; exact HF17.out⟩⟩, by simp [intOf]; omega⟩
        · as_aux_lemma =>
            exact absurd (HMX2.out j e1) (by omega)
    · as_aux_lemma =>
        have e1' : decide ((j : Int) < (mx : Int)) = false := decide_eq_false (by omega)
        have hf := HFr.out
        have hjn : j = mx := by omega
        rw [hjn, List.take_of_length_le (by have := HMXX.out; have := HLENL2.out; omega), List.take_of_length_le (by have := HMXX.out; have := HLENL1.out; omega), HSX.out, HSY.out] at hf
        have HF := Aside0.mk hf
        clear hf HFr hjn HF0 HDP HDQ
        go_upto_region 15 with (first
          | (go_at_call 20; refine (HF.out.low (p := p) (s := sx) (by simp)).mono ?_; rintro e w' ⟨rfl, rfl⟩)
          | (go_at_call 19; refine (HF.out.all (p := p) (s := sx) (by simp)).mono ?_; rintro e w17 ⟨A1, c1, rfl, hf17⟩; have HF17 := Aside0.mk hf17; clear hf17))
        go_upto_region 16 with (first
          | (go_at_call 20; refine (HF17.out.low (p := x) (s := sx) (by simp)).mono ?_; rintro e w' ⟨rfl, rfl⟩)
          | (go_at_call 19; refine (HF17.out.all (p := x) (s := sx) (by simp)).mono ?_; rintro e w18 ⟨A2, c2, rfl, hf18⟩; have HF18 := Aside0.mk hf18; clear hf18))
        go_upto_region 17 with (first
          | (go_at_call 20; refine (HF18.out.low (p := q) (s := sy) (by simp)).mono ?_; rintro e w' ⟨rfl, rfl⟩)
          | (go_at_call 19; refine (HF18.out.all (p := q) (s := sy) (by simp)).mono ?_; rintro e w19 ⟨A3, c3, rfl, hf19⟩; have HF19 := Aside0.mk hf19; clear hf19))
        go_upto_region 18 with (first
          | (go_at_call 20; refine (HF19.out.low (p := y) (s := sy) (by simp)).mono ?_; rintro e w' ⟨rfl, rfl⟩)
          | (go_at_call 19; refine (HF19.out.all (p := y) (s := sy) (by simp)).mono ?_; rintro e w20 ⟨A4, c4, rfl, hf20⟩; have HF20 := Aside0.mk hf20; clear hf20))
        clear HF HF17 HF18 HF19
        go_wp2_with (first
          | (go_at_call 15; refine (HAW.out _ HF28.out.be).mono ?_; rintro e w30 ⟨rfl, hb30⟩)
          | (go_at_call 27; refine (HF27.out.sameT (p := y) (s := sy) (by simp) HC27.out.1 HC27.out.2 d7 e7 d8 e8).mono ?_; rintro e w28 ⟨rfl, hf28⟩; have HF28 := Aside0.mk hf28; clear hf28)
          | (go_at_call 29; refine (HF26.out.whole2 (p := y) (s := sy) (by simp) HC26.out).mono ?_; rintro e w27 ⟨A8, d8, B8, e8, rfl, hf27, hc27⟩; have HF27 := Aside0.mk hf27; have HC27 := Aside0.mk hc27; clear hf27 hc27)
          | (go_at_call 29; refine (HF25.out.whole1 (p := q) (s := sy) (by simp)).mono ?_; rintro e w26 ⟨A7, d7, B7, e7, rfl, hf26, hc26⟩; have HF26 := Aside0.mk hf26; have HC26 := Aside0.mk hc26; clear hf26 hc26)
          | (go_at_call 39; refine (HF24.out.sameR (p := y) (s := sy) (by simp) (A1 := A3) (A2 := A4) (by simp) (by simp) c3 c4).mono ?_; rintro e w25 ⟨rfl, hf25⟩; have HF25 := Aside0.mk hf25; clear hf25)
          | (go_at_call 27; refine (HF23.out.sameT (p := x) (s := sx) (by simp) HC23.out.1 HC23.out.2 d5 e5 d6 e6).mono ?_; rintro e w24 ⟨rfl, hf24⟩; have HF24 := Aside0.mk hf24; clear hf24)
          | (go_at_call 29; refine (HF22.out.whole2 (p := x) (s := sx) (by simp) HC22.out).mono ?_; rintro e w23 ⟨A6, d6, B6, e6, rfl, hf23, hc23⟩; have HF23 := Aside0.mk hf23; have HC23 := Aside0.mk hc23; clear hf23 hc23)
          | (go_at_call 29; refine (HF21.out.whole1 (p := p) (s := sx) (by simp)).mono ?_; rintro e w22 ⟨A5, d5, B5, e5, rfl, hf22, hc22⟩; have HF22 := Aside0.mk hf22; have HC22 := Aside0.mk hc22; clear hf22 hc22)
          | (go_at_call 39; refine (HF20.out.sameR (p := x) (s := sx) (by simp) (A1 := A1) (A2 := A2) (by simp) (by simp) c1 c2).mono ?_; rintro e w21 ⟨rfl, hf21⟩; have HF21 := Aside0.mk hf21; clear hf21))
        go_ret
        exact ⟨rfl, by first | exact below_then HB.out HB.out.size hb30 | exact hg ▸ below_then HB.out HB.out.size hb30⟩
end Go.Proofs.YtgmaedngkhidlaaDoor.Sf
