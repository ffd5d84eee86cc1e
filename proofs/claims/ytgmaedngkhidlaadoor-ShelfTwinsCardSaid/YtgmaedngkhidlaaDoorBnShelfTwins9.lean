/- Texts that the row of LawShelfTwins rests on, part 9 of 12: contracts of the functions, their walks, plain laws. -/
import Derived.Test.YtgmaedngkhidlaaDoorBnShelfTwins8
set_option linter.unusedSimpArgs false
-- SgO
namespace Go.Proofs.YtgmaedngkhidlaaDoor.Sf
open Go Go.RowKit Go.ChangeMaps Go.MapKept Go.Proofs.YtgmaedngkhidlaaDoorW.PrintWords Go.Proofs.YtgmaedngkhidlaaDoorW.PrintLast Go.Proofs.YtgmaedngkhidlaaDoorW.PrintMore
open Go.Maps (Keyed)
set_option linter.unusedVariables false
set_option linter.unusedSimpArgs false
theorem insC_last {x : Cel} : ∀ {l : List Cel}, (∀ c ∈ l, cmpL c.key x.key < 0) → insC x l = l ++ [x]
  | [], _ => rfl
  | d :: r, h => by
    unfold insC
    rw [if_pos (h d (List.mem_cons_self ..)), insC_last (fun c hc => h c (List.mem_cons_of_mem _ hc))]
    rfl
theorem insD_last {x : Don} : ∀ {l : List Don}, (∀ c ∈ l, c.client < x.client) → insD x l = l ++ [x]
  | [], _ => rfl
  | d :: r, h => by
    unfold insD
    rw [if_pos (h d (List.mem_cons_self ..)), insD_last (fun c hc => h c (List.mem_cons_of_mem _ hc))]
    rfl
theorem take_insC {l : List Cel} (h : UpC l) {j : Nat} (hj : j < l.length) : insC l[j] (l.take j) = l.take (j + 1) := by
  rw [List.take_succ_eq_append_getElem hj]
  refine insC_last fun c hc => ?_
  obtain ⟨i, hi, he⟩ := List.mem_iff_getElem.1 hc
  rw [List.length_take] at hi
  rw [List.getElem_take] at he
  rw [← he]
  exact List.pairwise_iff_getElem.1 h i j (by omega) hj (by omega)
theorem take_insD {l : List Don} (h : UpD l) {j : Nat} (hj : j < l.length) : insD l[j] (l.take j) = l.take (j + 1) := by
  rw [List.take_succ_eq_append_getElem hj]
  refine insD_last fun c hc => ?_
  obtain ⟨i, hi, he⟩ := List.mem_iff_getElem.1 hc
  rw [List.length_take] at hi
  rw [List.getElem_take] at he
  rw [← he]
  exact List.pairwise_iff_getElem.1 h i j (by omega) hj (by omega)
theorem aggTb : AggT Tryd.prog 25 4 := ⟨⟨_, Tryd.underlying25, rfl⟩, by kernel_rfl⟩
section
variable {P : Program} {o : Oper} {a : Act} {w : World}
theorem skip_mapPut {ops : Array Oper} {Q : Exit → Act → World → Prop} {K : Act → World → Prop} (hw : Region.wanted o (yielded ops a.tmps) = true) (hN : o.dst = none) (m x v : Operand) (t : TypeId) (hop : o.op = Op.mapUpdate t m x v)
    (k e : TypeId) (K' : Keyed P k) (ht : P.underlying t = some (.map k e)) (b : Nat) (l : List (Value × Value)) (hm : a.eval m = .map (some b)) (hM : IsMap P k w b l) (key val : Value) (q : Lit) (hx : a.eval x = key) (hv : a.eval v = val) (hk : keyOf P k key = some q)
    (h : ∀ w', w.grownBy w' (some b) → w'.heap.size = w.heap.size → ((∃ u l', l.Perm ((key, u) :: l') ∧ IsMap P k w' b ((key, val) :: l')) ∨ ((∀ p ∈ l, p.1 ≠ key) ∧ IsMap P k w' b ((key, val) :: l))) → K a w') : if Region.wanted o (yielded ops a.tmps) = true then Oper.wp P o a w K Q else K (a.put none undef) w := by
  obtain ⟨w1, hrun, q1, q2, q3⟩ := hM.put K' ht hk val
  refine skip_ hw hN (w1 := w1) ?_ (h w1 q1 q2 q3)
  simp [execOp, hop, hm, hx, hv, hrun, Result.andThen]
theorem exec_part (ty : TypeId) (x y : Operand) (ho : o.op = .store ty x y) (g f : Nat) (zs : Array Value) (t : TypeId) (hb : w.heap[g]? = some (.cells zs t (0, 0))) (cs : List Value) (hx : a.eval x = .pointer (some ⟨g, f, none⟩)) (hy : a.eval y = .agg cs.toArray) (hA : AggT P ty cs.length) (hz : f + cs.length ≤ zs.size) (h1 : ∀ v ∈ cs, v.oneCell' = true) (ns : Array Value) (hn : (zs.toList.take f ++ cs ++ zs.toList.drop (f + cs.length)).toArray = ns) :
    ∃ w', (execOp a.eval o).run P w = .ok .skip w' ∧ w.grownBy w' (some g) ∧ w'.heap.size = w.heap.size ∧ w'.heap[g]? = some (.cells ns t (0, 0)) := by
  have hst := run_storeCells_at P g f t cs 0 zs w hb (by omega) h1
  rw [Nat.add_zero, hn] at hst
  have hrun : (Instr.storeAt ty (.pointer (some ⟨g, f, none⟩)) (.agg cs.toArray)).run P w = .ok () (w.setRow g ns) := by
    have hi := hA.size
    cases hq : P.info? ty with
    | none => simp [hq] at hi
    | some i =>
      have hs : cs.length = i.size := by simp [hq] at hi; omega
      simp [Instr.storeAt, Instr.sureAddr, storeVar, sizeOf, typeInfo, hq, Value.cells, ← hs, hst]
  refine ⟨w.setRow g ns, ?_, ⟨rfl, rfl, rfl, by simp, fun i _ hi => setRow_other w g i _ (fun e => hi (by rw [e]))⟩, by simp, setRow_heap w g zs ns t (0, 0) hb⟩
  unfold execOp
  simp only [ho, hx, hy, Sem.run_bind, Sem.run_pure, Result.andThen_ok, hrun]
theorem skip_part {ops : Array Oper} {Q : Exit → Act → World → Prop} {K : Act → World → Prop} (hw : Region.wanted o (yielded ops a.tmps) = true) (hN : o.dst = none) (ty : TypeId) (x y : Operand) (ho : o.op = .store ty x y) (g f : Nat) (zs : Array Value) (t : TypeId) (hb : w.heap[g]? = some (.cells zs t (0, 0))) (cs : List Value) (hx : a.eval x = .pointer (some ⟨g, f, none⟩)) (hy : a.eval y = .agg cs.toArray) (hA : AggT P ty cs.length) (hz : f + cs.length ≤ zs.size) (h1 : ∀ v ∈ cs, v.oneCell' = true) (ns : Array Value) (hn : (zs.toList.take f ++ cs ++ zs.toList.drop (f + cs.length)).toArray = ns)
    (h : ∀ w', w.grownBy w' (some g) → w'.heap.size = w.heap.size → w'.heap[g]? = some (.cells ns t (0, 0)) → K a w') : if Region.wanted o (yielded ops a.tmps) = true then Oper.wp P o a w K Q else K (a.put none undef) w := by
  obtain ⟨w1, hr, q1, q2, q3⟩ := exec_part (P := P) (a := a) (o := o) ty x y ho g f zs t hb cs hx hy hA hz h1 ns hn
  exact skip_ hw hN hr (h w1 q1 q2 q3)
end
set_option maxHeartbeats 8000000 in
set_option maxRecDepth 100000 in
theorem From_calls (t : Tab) (A B : Option Addr) (c d : Nat) (w : World) (hC : kC.C w A t.cells.length t.cells) (hD : kD.C w B t.done.length t.done) (hk : ∀ x ∈ t.cells, KeyL x.key ∧ x.val.size ≤ 9223372036854775807) (hT : Tabs w) (hok : TabOk t) :
    Calls Tryd.prog 25 #[vT t.idx t.epoch A t.cells.length c B t.done.length d] w fun e w' => ∃ p, e = .returned (.tuple #[.pointer (some ⟨p, 0, none⟩), .int .i64 0]) ∧ Below w.heap.size w w' ∧ IsS (fun k => w.heap.size ≤ k ∧ k < w'.heap.size) (fun k => w.heap.size ≤ k ∧ k < w'.heap.size) w' p ⟨t, [], t.idx⟩ := by
  obtain ⟨g, hg⟩ : ∃ g, w.heap.size = g := ⟨_, rfl⟩
  obtain ⟨idx, hidx⟩ : ∃ idx, t.idx = idx := ⟨_, rfl⟩
  obtain ⟨ep, hep⟩ : ∃ ep, t.epoch = ep := ⟨_, rfl⟩
  obtain ⟨n, hn⟩ : ∃ n, t.cells.length = n := ⟨_, rfl⟩
  obtain ⟨m, hm⟩ : ∃ m, t.done.length = m := ⟨_, rfl⟩
  obtain ⟨w1, hw1⟩ : ∃ w1, w.alloc (.cells #[.int .i64 idx, .int .i64 ep, .slice A n c, .slice B m d] 25) = w1 := ⟨_, rfl⟩
  have hb1 : Below w.heap.size w w1 := hw1 ▸ below_alloc (Below.refl _ _) _
  have hR1 : w1.heap[g]? = some (.cells [.int .i64 idx, .int .i64 ep, .slice A n c, .slice B m d].toArray 25) := hg ▸ hw1 ▸ at_alloc w _
  have HCHK : Aside0 (Calls Tryd.prog 14 #[vT idx ep A n c B m d] w1 fun e w' => e = .returned (.int .i64 0) ∧ Below w1.heap.size w1 w') := ⟨by
    have := Check_calls t A B c d w1 (Kd.C_below hC hb1) (Kd.C_below hD hb1) hk (hT.below hb1)
    rw [hidx, hep, hn, hm, check_ok.2 hok] at this
    exact this⟩
  rw [hidx, hep, hn, hm]
  have HC := Aside0.mk (Kd.C_below hC hb1)
  have HD := Aside0.mk (Kd.C_below hD hb1)
  have HW := Aside0.mk hw1
  have HB := Aside0.mk hb1
  have HR := Aside0.mk hR1
  have HK := Aside0.mk hk
  have HTab := Aside0.mk hok
  have HN := Aside0.mk (And.intro hidx (And.intro hep (And.intro hn hm)))
  have HSm : Aside0 (n ≤ 12 ∧ m ≤ 4) := ⟨by have := hok.many; have := hok.four; omega⟩
  have HG := Aside0.mk hg
  clear hC hD hw1 hb1 hR1 hk hT hok hidx hep hn hm
  go_enter Tryd.func25, Tryd.ntmps25
  go_upto_region 1 with (fail)
  rw [HW.out]
  go_upto_region 5 with (first
    | ((with_reducible refine gate_dst (N := 10) rfl ?_); go_must (refine wpList_seg (P := Tryd.prog) rfl 25 (.tmp 1) rfl g 0 rfl [.int .i64 idx, .int .i64 ep, .slice A n c, .slice B m d] aggTb (SegAt.blk (t := 25) (fr := (0, 0)) HR.out) ?_))
    | (go_at_call 14; refine HCHK.out.mono ?_; rintro e w2 ⟨rfl, hb2⟩; have HB2 := Aside0.mk hb2; clear hb2)
    | (go_at_call 48; refine (New_calls w2).mono ?_; rintro e w5 ⟨p, rfl, hb5, hN5⟩; have HB5 := Aside0.mk hb5; have HN5 := Aside0.mk hN5; clear hb5 hN5))
  obtain ⟨hltp, _, hfp, b1, b2, b3, b4, rv, hp0, hf0, hn0, hs1, hs2, hrv⟩ := HN5.out (fun _ => True) (fun _ _ _ => trivial)
  have hb15 := below_then HB2.out HB2.out.size HB5.out
  have HB15 := Aside0.mk hb15
  have HR5 := Aside0.mk (blk_below HR.out hb15)
  have HC5 := Aside0.mk (Kd.C_below HC.out hb15)
  have HD5 := Aside0.mk (Kd.C_below HD.out hb15)
  have HP5 := Aside0.mk (show w5.heap[p]? = some (.cells (shCells b1 b2 b3 b4 0 0 rv 0) 86 (0, 0)) from hp0)
  have HS5 := Aside0.mk hs1
  have HRV5 := Aside0.mk hrv
  have hg1 : g < w1.heap.size := blk_lt HR.out
  have h12 := HB2.out.size
  have HO : Aside0 (g < p ∧ p ≠ b1 ∧ p ≠ b2 ∧ b1 ≠ b2 ∧ g < b1 ∧ g < b2 ∧ w1.heap.size ≤ b1 ∧ w1.heap.size ≤ b2 ∧ w1.heap.size ≤ p ∧ b1 < w5.heap.size ∧ b2 < w5.heap.size ∧ p < w5.heap.size) := ⟨by
    have h1 := IsMap.ne_cells hs1.c hp0
    have h2 := IsMap.ne_cells hs1.d hp0
    have h3 := hf0.1
    have h4 := hf0.2.1
    have h5 := hfp
    simp at hn0
    omega⟩
  have r2 : w5.cell? ⟨g, 2, none⟩ = some (.slice A n c) := blk_get HR5.out 2 _ rfl
  clear hltp hfp hp0 hf0 hn0 hs1 hs2 hrv hb15 hg1 h12 HN5
  go_upto_region 6 with (fail)
  go_loopw [19] (fun v19 wr => ∃ j : Nat, j ≤ n ∧ v19 = .int .i64 (j : Int) ∧ Aside0 (IsCs wr b1 (t.cells.take j)) ∧ Aside0 (Ws (fun b => b = b1) w5 wr)) (fun v19 _ => n - (intOf v19).toNat)
  case atStart => exact ⟨0, Nat.zero_le _, rfl, ⟨by rw [List.take_zero]; exact HS5.out.c⟩, ⟨Ws.refl _ _⟩⟩
  case round =>
    obtain ⟨j, hj, rfl, HM, HWs⟩ := hrel
    clear r2
    have HPr : Aside0 (wr.heap[p]? = some (.cells (shCells b1 b2 b3 b4 0 0 rv 0) 86 (0, 0))) := ⟨(HWs.out.block p (blk_lt HP5.out) (by have := HO.out; omega)).trans HP5.out⟩
    by_cases e1 : j < n
    · have e1' : decide ((j : Int) < (n : Int)) = true := decide_eq_true (by omega)
      have hjl : j < t.cells.length := by have := HN.out.2.2.1; omega
      have HWJ : Aside0 (wrap64 ((j : Int) + 1) = (j : Int) + 1) := ⟨by have := HSm.out; unfold wrap64; omega⟩
      have hbr : Below w1.heap.size w1 wr := HWs.out.below HB15.out (fun b hb => by have := HO.out; omega)
      obtain ⟨ad, hA, hkl, hcell⟩ := C_atC (Kd.C_below HC.out hbr) j hjl
      subst hA
      have htk := take_insC HTab.out.up hjl
      obtain ⟨x, hx⟩ : ∃ x, t.cells[j] = x := ⟨_, rfl⟩
      rw [hx] at hkl hcell htk
      have hkx := (HK.out x (hx ▸ List.getElem_mem hjl)).1
      obtain ⟨q, hq⟩ := key_some hkx
      have hup : UpC (t.cells.take j) := List.Pairwise.sublist (List.take_sublist _ _) HTab.out.up
      obtain ⟨l, hl⟩ : ∃ l, t.cells.take j = l := ⟨_, rfl⟩
      rw [hl] at htk hup HM
      obtain ⟨xs, hxs⟩ : ∃ xs, encC x = xs := ⟨_, rfl⟩
      obtain ⟨ks, hks⟩ : ∃ ks, encK x.key = ks := ⟨_, rfl⟩
      have HTK := Aside0.mk htk
      have HUP := Aside0.mk hup
      have HXS := Aside0.mk hxs
      have HKS := Aside0.mk hks
      have HQ : Aside0 (keyOf Tryd.prog 28 (.agg ks.toArray) = some q) := ⟨hks ▸ hq⟩
      have HLK : Aside0 (ks.length = 8) := ⟨hks ▸ encK_len hkl⟩
      have HLX : Aside0 (xs.length = 10) := ⟨hxs ▸ encC_len hkl⟩
      have HX1 : Aside0 (∀ v ∈ xs, v.oneCell' = true) := ⟨hxs ▸ encC_one x⟩
      have HCell : Aside0 (∀ q v, xs[q]? = some v → wr.cell? ((ad.add (j * 10)).add q) = some v) := ⟨hxs ▸ hcell⟩
      have HKSEG : Aside0 (∀ (w' : World) (b : Nat), w'.heap[b]? = some (.cells xs.toArray 45 (0, 0)) → SegAt w' b 0 ks) := ⟨fun w' b h j v hj => by
        have := (celAt (f := fun i => w'.cell? ⟨b, i, none⟩) hkl (hxs ▸ blk_get h)).key j v (hks ▸ hj)
        rw [Nat.zero_add]; exact this⟩
      clear hbr hkl hcell htk hx hkx hq hup hl hxs hks
      go_upto_region 8 with (first
        | ((with_reducible refine gate_dst (N := 22) rfl ?_); go_must (refine wpList_at (P := Tryd.prog) rfl 45 (.tmp 21) rfl (ad.add (j * 10)) rfl xs (by rw [HLX.out]; exact aggC) HCell.out ?_))
        | ((with_reducible refine gate_ (.store 45 (.tmp 7) (.tmp 22)) rfl ?_); go_must (refine wpList_fill (P := Tryd.prog) rfl 45 (.tmp 7) (.tmp 22) rfl xs _ rfl rfl (by rw [HLX.out]; exact aggC) (by rw [HLX.out]; rfl) HX1.out ?_)))
      obtain ⟨w11, hw11⟩ : ∃ w11, wr.alloc (.cells xs.toArray 45) = w11 := ⟨_, rfl⟩
      have hb11 : Below wr.heap.size wr w11 := hw11 ▸ below_alloc (Below.refl _ _) _
      have HA11 := Aside0.mk (show w11.heap[wr.heap.size]? = some (.cells xs.toArray 45) from hw11 ▸ at_alloc wr _)
      have HP11 := Aside0.mk (blk_below HPr.out hb11)
      have HM11 : Aside0 (IsCs w11 b1 l) := ⟨IsMap.below HM.out hb11⟩
      have HW11 := Aside0.mk (HWs.out.trans (Ws.of_below hb11))
      rw [hw11]
      obtain ⟨b, hbb⟩ : ∃ b, wr.heap.size = b := ⟨_, rfl⟩
      rw [hbb] at HA11 ⊢
      clear hw11 hb11 hbb
      refine start_ (n := 9) (S := fun w' => w'.heap[p]? = some (.cells (shCells b1 b2 b3 b4 0 0 rv 0) 86 (0, 0)) ∧ w'.heap[b]? = some (.cells xs.toArray 45 (0, 0)) ∧ IsCs w' b1 l) (ds := [8]) #[false, false, false, false, false, false, false, false, false] (by kernel_rfl) rfl rfl ⟨blk_below HP11.out (below_drew1 (Below.refl _ _)), blk_below HA11.out (below_drew1 (Below.refl _ _)), IsMap.below HM11.out (below_drew1 (Below.refl _ _))⟩ (fun hHeld => ?_)
      refine pure_ (i := 0) (N := some 23) (v := ?_) (a' := ?_) #[true, false, false, false, false, false, false, false, false] rfl rfl (by kernel_rfl) (fun _ _ _ h => h) (Or.inl ⟨by rfl, ?_⟩) ?_ ?_
      rotate_left
      · intro w'
        go_simp
        with_reducible rfl
      rotate_left
      · simp only [Act.put, List.setIfInBounds_toArray, List.set_cons_zero, List.set_cons_succ, i64_w, i32_w]
        rfl
      refine pure_ (i := 1) (N := some 24) (v := ?_) (a' := ?_) #[true, true, false, false, false, false, false, false, false] rfl rfl (by kernel_rfl) (fun _ _ _ h => h) (Or.inl ⟨by rfl, ?_⟩) ?_ ?_
      rotate_left
      · intro w'
        go_simp
        with_reducible rfl
      rotate_left
      · simp only [Act.put, List.setIfInBounds_toArray, List.set_cons_zero, List.set_cons_succ, i64_w, i32_w]
        rfl
      refine pure_ (i := 2) (N := some 25) (v := ?_) (a' := ?_) #[true, true, true, false, false, false, false, false, false] rfl rfl (by kernel_rfl) (fun _ _ _ h => h) (Or.inl ⟨by rfl, ?_⟩) ?_ ?_
      rotate_left
      · intro w'
        go_simp
        with_reducible rfl
      rotate_left
      · simp only [Act.put, List.setIfInBounds_toArray, List.set_cons_zero, List.set_cons_succ, i64_w, i32_w]
        rfl
      refine pure_ (i := 3) (N := some 26) (v := ?_) (a' := ?_) #[true, true, true, true, false, false, false, false, false] rfl rfl (by kernel_rfl) (fun _ _ _ h => h) (Or.inl ⟨by rfl, ?_⟩) ?_ ?_
      rotate_left
      · intro w'
        go_simp
        with_reducible rfl
      rotate_left
      · simp only [Act.put, List.setIfInBounds_toArray, List.set_cons_zero, List.set_cons_succ, i64_w, i32_w]
        rfl
      refine pure_ (i := 5) (N := some 28) (v := ?_) (a' := ?_) #[true, true, true, true, false, true, false, false, false] rfl rfl (by kernel_rfl) (fun _ _ _ h => h) (Or.inl ⟨by rfl, ?_⟩) ?_ ?_
      rotate_left
      · intro w'
        go_simp
        with_reducible rfl
      rotate_left
      · simp only [Act.put, List.setIfInBounds_toArray, List.set_cons_zero, List.set_cons_succ, i64_w, i32_w]
        rfl
      refine take_ (i := 4) (N := some 27) (v := ?_) (a' := ?_) #[true, true, true, true, true, true, false, false, false] rfl rfl (by kernel_rfl) (fun _ _ _ h => h) (Or.inl ⟨by rfl, ?_⟩) hHeld ?_ ?_
      rotate_left
      · rintro w' ⟨s0, s1, s2⟩
        have d0_ := (blk_cell s0 0).trans (show _ = some (.map (some b1)) from rfl)
        go_simp
        with_reducible rfl
      rotate_left
      · simp only [Act.put, List.setIfInBounds_toArray, List.set_cons_zero, List.set_cons_succ, i64_w, i32_w]
        rfl
      refine take_ (i := 6) (N := some 29) (v := ?_) (a' := ?_) #[true, true, true, true, true, true, true, false, false] rfl rfl (by kernel_rfl) (fun _ _ _ h => h) (Or.inl ⟨by rfl, ?_⟩) hHeld ?_ ?_
      rotate_left
      · rintro w' ⟨s0, s1, s2⟩
        refine Eq.trans (exec_seg (P := Tryd.prog) 28 (.tmp 28) rfl b 0 rfl ks (by rw [HLK.out]; exact aggK) (HKSEG.out _ _ s1)) ?_
        with_reducible rfl
      rotate_left
      · simp only [Act.put, List.setIfInBounds_toArray, List.set_cons_zero, List.set_cons_succ, i64_w, i32_w]
        rfl
      refine take_ (i := 7) (N := some 30) (v := ?_) (a' := ?_) #[true, true, true, true, true, true, true, true, false] rfl rfl (by kernel_rfl) (fun _ _ _ h => h) (Or.inl ⟨by rfl, ?_⟩) hHeld ?_ ?_
      rotate_left
      · rintro w' ⟨s0, s1, s2⟩
        refine Eq.trans (exec_seg (P := Tryd.prog) 45 (.tmp 7) rfl b 0 rfl xs (by rw [HLX.out]; exact aggC) (SegAt.blk (t := 45) (fr := (0, 0)) s1)) ?_
        with_reducible rfl
      rotate_left
      · simp only [Act.put, List.setIfInBounds_toArray, List.set_cons_zero, List.set_cons_succ, i64_w, i32_w]
        rfl
      refine last_ (i := 8) (N := none) #[true, true, true, true, true, true, true, true, true] rfl rfl (by kernel_rfl) (by decide) (fun K hK => ?_)
      refine skip_mapPut (P := Tryd.prog) (by rfl) rfl (.tmp 27) (.tmp 29) (.tmp 30) 81 rfl 28 45 keyedK mapC b1 _ rfl hHeld.2.2 (.agg ks.toArray) (.agg xs.toArray) q rfl rfl HQ.out ?_
      intro w12 q1 q2 q3
      refine hK.out _ _ ?_
      clear hK K
      refine done_ (by kernel_rfl) ?_
      have hput : IsCs w12 b1 (insC x l) := IsCs.put HUP.out (by rw [← HKS.out, ← HXS.out] at q3; exact q3)
      rw [HTK.out] at hput
      have HPUT := Aside0.mk hput
      have HW12 : Aside0 (Ws (fun b => b = b1) w5 w12) := ⟨(HW11.out.trans (Ws.of_below (below_drew1 (Below.refl _ _)))).trans (Ws.of_grown (P := fun b => b = b1) q1 rfl)⟩
      clear hput hHeld q1 q2 q3
      go_wp2_with (fail)
      rw [HWJ.out]
      exact ⟨⟨j + 1, by omega, by push_cast; rfl, HPUT, HW12⟩, by simp [intOf]; omega⟩
    · have e1' : decide ((j : Int) < (n : Int)) = false := decide_eq_false (by omega)
      have hbr : Below w1.heap.size w1 wr := HWs.out.below HB15.out (fun b hb => by have := HO.out; omega)
      have hRr := blk_below HR.out hbr
      have r3 : wr.cell? ⟨g, 3, none⟩ = some (.slice B m d) := blk_get hRr 3 _ rfl
      have hM := HM.out
      rw [List.take_of_length_le (by have := HN.out.2.2.1; omega)] at hM
      have HM1 := Aside0.mk hM
      have HD0 : Aside0 (IsDs wr b2 []) := ⟨IsMap.same HS5.out.d (HWs.out.block b2 (by have := HO.out; omega) (by have := HO.out; omega))⟩
      have HW0 : Aside0 (Ws (fun b => b = b1 ∨ b = b2) w5 wr) := ⟨HWs.out.mono (fun b _ h => .inl h)⟩
      clear hbr hRr hM HM HWs HPr
      go_upto_region 11 with (fail)
      go_loopw [35] (fun v35 wr => ∃ j : Nat, j ≤ m ∧ v35 = .int .i64 (j : Int) ∧ Aside0 (IsCs wr b1 t.cells) ∧ Aside0 (IsDs wr b2 (t.done.take j)) ∧ Aside0 (Ws (fun b => b = b1 ∨ b = b2) w5 wr)) (fun v35 _ => m - (intOf v35).toNat)
      case atStart => exact ⟨0, Nat.zero_le _, rfl, HM1, ⟨by rw [List.take_zero]; exact HD0.out⟩, HW0⟩
      case round =>
        clear r3 HD0 HW0 HM1 e1 e1'
        obtain ⟨j, hj, rfl, HMC, HMD, HWs⟩ := hrel
        have HPr : Aside0 (wr.heap[p]? = some (.cells (shCells b1 b2 b3 b4 0 0 rv 0) 86 (0, 0))) := ⟨(HWs.out.block p (blk_lt HP5.out) (by have := HO.out; omega)).trans HP5.out⟩
        have hbr : Below w1.heap.size w1 wr := HWs.out.below HB15.out (fun b hb => by have := HO.out; omega)
        by_cases e1 : j < m
        · have e1' : decide ((j : Int) < (m : Int)) = true := decide_eq_true (by omega)
          have hjl : j < t.done.length := by have := HN.out.2.2.2; omega
          have HWJ : Aside0 (wrap64 ((j : Int) + 1) = (j : Int) + 1) := ⟨by have := HSm.out; unfold wrap64; omega⟩
          obtain ⟨ad, hA, hcell⟩ := C_atD (Kd.C_below HD.out hbr) j hjl
          subst hA
          have htk := take_insD HTab.out.upd hjl
          have hwf := HTab.out.wf _ (List.getElem_mem hjl)
          obtain ⟨x, hx⟩ : ∃ x, t.done[j] = x := ⟨_, rfl⟩
          rw [hx] at hcell htk hwf
          obtain ⟨dc, dq, dv⟩ := x
          have hup : UpD (t.done.take j) := List.Pairwise.sublist (List.take_sublist _ _) HTab.out.upd
          obtain ⟨l, hl⟩ : ∃ l, t.done.take j = l := ⟨_, rfl⟩
          rw [hl] at htk hup HMD
          have HTK := Aside0.mk htk
          have HUP := Aside0.mk hup
          have HQ : Aside0 (keyOf Tryd.prog 3 (.int .i64 dc) = some (.int .i64 dc)) := ⟨Maps.keyOf_int_mk Tryd.underlying3 hwf⟩
          have HX1 : Aside0 (∀ v ∈ ([.int .i64 dc, .int .i64 dq, .int .i64 dv] : List Value), v.oneCell' = true) := ⟨encD_one ⟨dc, dq, dv⟩⟩
          have HCell : Aside0 (∀ q v, ([.int .i64 dc, .int .i64 dq, .int .i64 dv] : List Value)[q]? = some v → wr.cell? ((ad.add (j * 3)).add q) = some v) := ⟨hcell⟩
          clear hbr hcell htk hx hup hl hwf
          go_upto_region 13 with (first
            | ((with_reducible refine gate_dst (N := 38) rfl ?_); go_must (refine wpList_at (P := Tryd.prog) rfl 58 (.tmp 37) rfl (ad.add (j * 3)) rfl [.int .i64 dc, .int .i64 dq, .int .i64 dv] aggD HCell.out ?_))
            | ((with_reducible refine gate_ (.store 58 (.tmp 9) (.tmp 38)) rfl ?_); go_must (refine wpList_fill (P := Tryd.prog) rfl 58 (.tmp 9) (.tmp 38) rfl [.int .i64 dc, .int .i64 dq, .int .i64 dv] _ rfl rfl aggD rfl HX1.out ?_)))
          obtain ⟨w11, hw11⟩ : ∃ w11, wr.alloc (.cells #[.int .i64 dc, .int .i64 dq, .int .i64 dv] 58) = w11 := ⟨_, rfl⟩
          have hb11 : Below wr.heap.size wr w11 := hw11 ▸ below_alloc (Below.refl _ _) _
          have HA11 := Aside0.mk (show w11.heap[wr.heap.size]? = some (.cells [.int .i64 dc, .int .i64 dq, .int .i64 dv].toArray 58) from hw11 ▸ at_alloc wr _)
          have HP11 := Aside0.mk (blk_below HPr.out hb11)
          have HM11 : Aside0 (IsDs w11 b2 l) := ⟨IsMap.below HMD.out hb11⟩
          have HC11 : Aside0 (IsCs w11 b1 t.cells) := ⟨IsMap.below HMC.out hb11⟩
          have HW11 := Aside0.mk (HWs.out.trans (Ws.of_below hb11))
          rw [hw11]
          obtain ⟨b, hbb⟩ : ∃ b, wr.heap.size = b := ⟨_, rfl⟩
          rw [hbb] at HA11 ⊢
          clear hw11 hb11 hbb
          refine start_ (n := 9) (S := fun w' => w'.heap[p]? = some (.cells (shCells b1 b2 b3 b4 0 0 rv 0) 86 (0, 0)) ∧ w'.heap[b]? = some (.cells [.int .i64 dc, .int .i64 dq, .int .i64 dv].toArray 58 (0, 0)) ∧ IsDs w' b2 l) (ds := [8]) #[false, false, false, false, false, false, false, false, false] (by kernel_rfl) rfl rfl ⟨blk_below HP11.out (below_drew1 (Below.refl _ _)), blk_below HA11.out (below_drew1 (Below.refl _ _)), IsMap.below HM11.out (below_drew1 (Below.refl _ _))⟩ (fun hHeld => ?_)
          refine pure_ (i := 0) (N := some 39) (v := ?_) (a' := ?_) #[true, false, false, false, false, false, false, false, false] rfl rfl (by kernel_rfl) (fun _ _ _ h => h) (Or.inl ⟨by rfl, ?_⟩) ?_ ?_
          rotate_left
          · intro w'
            go_simp
            with_reducible rfl
          rotate_left
          · simp only [Act.put, List.setIfInBounds_toArray, List.set_cons_zero, List.set_cons_succ, i64_w, i32_w]
            rfl
          refine pure_ (i := 1) (N := some 40) (v := ?_) (a' := ?_) #[true, true, false, false, false, false, false, false, false] rfl rfl (by kernel_rfl) (fun _ _ _ h => h) (Or.inl ⟨by rfl, ?_⟩) ?_ ?_
          rotate_left
          · intro w'
            go_simp
            with_reducible rfl
          rotate_left
          · simp only [Act.put, List.setIfInBounds_toArray, List.set_cons_zero, List.set_cons_succ, i64_w, i32_w]
            rfl
          refine pure_ (i := 2) (N := some 41) (v := ?_) (a' := ?_) #[true, true, true, false, false, false, false, false, false] rfl rfl (by kernel_rfl) (fun _ _ _ h => h) (Or.inl ⟨by rfl, ?_⟩) ?_ ?_
          rotate_left
          · intro w'
            go_simp
            with_reducible rfl
          rotate_left
          · simp only [Act.put, List.setIfInBounds_toArray, List.set_cons_zero, List.set_cons_succ, i64_w, i32_w]
            rfl
          refine pure_ (i := 3) (N := some 42) (v := ?_) (a' := ?_) #[true, true, true, true, false, false, false, false, false] rfl rfl (by kernel_rfl) (fun _ _ _ h => h) (Or.inl ⟨by rfl, ?_⟩) ?_ ?_
          rotate_left
          · intro w'
            go_simp
            with_reducible rfl
          rotate_left
          · simp only [Act.put, List.setIfInBounds_toArray, List.set_cons_zero, List.set_cons_succ, i64_w, i32_w]
            rfl
          refine pure_ (i := 5) (N := some 44) (v := ?_) (a' := ?_) #[true, true, true, true, false, true, false, false, false] rfl rfl (by kernel_rfl) (fun _ _ _ h => h) (Or.inl ⟨by rfl, ?_⟩) ?_ ?_
          rotate_left
          · intro w'
            go_simp
            with_reducible rfl
          rotate_left
          · simp only [Act.put, List.setIfInBounds_toArray, List.set_cons_zero, List.set_cons_succ, i64_w, i32_w]
            rfl
          refine take_ (i := 4) (N := some 43) (v := ?_) (a' := ?_) #[true, true, true, true, true, true, false, false, false] rfl rfl (by kernel_rfl) (fun _ _ _ h => h) (Or.inl ⟨by rfl, ?_⟩) hHeld ?_ ?_
          rotate_left
          · rintro w' ⟨s0, s1, s2⟩
            have d1_ := (blk_cell s0 1).trans (show _ = some (.map (some b2)) from rfl)
            go_simp
            with_reducible rfl
          rotate_left
          · simp only [Act.put, List.setIfInBounds_toArray, List.set_cons_zero, List.set_cons_succ, i64_w, i32_w]
            rfl
          refine take_ (i := 6) (N := some 45) (v := ?_) (a' := ?_) #[true, true, true, true, true, true, true, false, false] rfl rfl (by kernel_rfl) (fun _ _ _ h => h) (Or.inl ⟨by rfl, ?_⟩) hHeld ?_ ?_
          rotate_left
          · rintro w' ⟨s0, s1, s2⟩
            have d0_ := (blk_cell s1 0).trans (show _ = some (.int .i64 dc) from rfl)
            go_simp
            with_reducible rfl
          rotate_left
          · simp only [Act.put, List.setIfInBounds_toArray, List.set_cons_zero, List.set_cons_succ, i64_w, i32_w]
            rfl
          refine take_ (i := 7) (N := some 46) (v := ?_) (a' := ?_) #[true, true, true, true, true, true, true, true, false] rfl rfl (by kernel_rfl) (fun _ _ _ h => h) (Or.inl ⟨by rfl, ?_⟩) hHeld ?_ ?_
          rotate_left
          · rintro w' ⟨s0, s1, s2⟩
            refine Eq.trans (exec_seg (P := Tryd.prog) 58 (.tmp 9) rfl b 0 rfl [.int .i64 dc, .int .i64 dq, .int .i64 dv] aggD (SegAt.blk (t := 58) (fr := (0, 0)) s1)) ?_
            with_reducible rfl
          rotate_left
          · simp only [Act.put, List.setIfInBounds_toArray, List.set_cons_zero, List.set_cons_succ, i64_w, i32_w]
            rfl
          refine last_ (i := 8) (N := none) #[true, true, true, true, true, true, true, true, true] rfl rfl (by kernel_rfl) (by decide) (fun K hK => ?_)
          refine skip_mapPut (P := Tryd.prog) (by rfl) rfl (.tmp 43) (.tmp 45) (.tmp 46) 82 rfl 3 58 keyedI mapD b2 _ rfl hHeld.2.2 (.int .i64 dc) (.agg [.int .i64 dc, .int .i64 dq, .int .i64 dv].toArray) _ rfl rfl HQ.out ?_
          intro w12 q1 q2 q3
          refine hK.out _ _ ?_
          clear hK K
          refine done_ (by kernel_rfl) ?_
          have hput : IsDs w12 b2 (insD ⟨dc, dq, dv⟩ l) := IsDs.put HUP.out q3
          rw [HTK.out] at hput
          have HPUT := Aside0.mk hput
          have hC12 : IsCs w11.drew b1 t.cells := IsMap.below HC11.out (below_drew1 (Below.refl _ _))
          have HC12 : Aside0 (IsCs w12 b1 t.cells) := ⟨IsMap.same hC12 (q1.block b1 (IsMap.lt hC12) (fun e => by injection e with e; have := HO.out; omega))⟩
          have HW12 : Aside0 (Ws (fun b => b = b1 ∨ b = b2) w5 w12) := ⟨(HW11.out.trans (Ws.of_below (below_drew1 (Below.refl _ _)))).trans (Ws.of_grown (P := fun b => b = b1 ∨ b = b2) q1 (.inr rfl))⟩
          clear hput hHeld q1 q2 q3 hC12
          go_wp2_with (fail)
          rw [HWJ.out]
          exact ⟨⟨j + 1, by omega, by push_cast; rfl, HC12, HPUT, HW12⟩, by simp [intOf]; omega⟩
        · have e1' : decide ((j : Int) < (m : Int)) = false := decide_eq_false (by omega)
          have hM := HMD.out
          rw [List.take_of_length_le (by have := HN.out.2.2.2; omega)] at hM
          have HSr : Aside0 (St2 wr b1 b2 t) := ⟨HMC.out, hM⟩
          have HRr := Aside0.mk (blk_below HR.out hbr)
          have HPd := Aside0.mk (blk_below HPr.out (below_drew1 (Below.refl wr.heap.size wr)))
          have HCOP : Aside0 (∀ w' : World, St2 w' b1 b2 t → Calls Tryd.prog 56 #[vS b1 b2] w' fun e w'' => ∃ c1 c2, e = .returned (vS c1 c2) ∧ Below w'.heap.size w' w'' ∧ w'.heap.size ≤ c1 ∧ c1 < c2 ∧ St2 w'' c1 c2 t) := ⟨fun w' h' => copied_calls b1 b2 t w' h' (fun c hc => (HK.out c hc).1) HTab.out.wf⟩
          have HNE : Aside0 (g ≠ p ∧ b1 ≠ p ∧ b2 ≠ p) := ⟨by have := HO.out; omega⟩
          clear hM HMC HMD hbr
          go_upto_region 15 with (fail)
          refine start_ (n := 27) (S := fun w' => w'.heap[g]? = some (.cells [.int .i64 idx, .int .i64 ep, .slice A n c, .slice B m d].toArray 25 (0, 0)) ∧ w'.cell? ⟨p, 0, none⟩ = some (.map (some b1)) ∧ w'.cell? ⟨p, 1, none⟩ = some (.map (some b2)) ∧ St2 w' b1 b2 t) (ds := [26]) #[false, false, false, false, false, false, false, false, false, false, false, false, false, false, false, false, false, false, false, false, false, false, false, false, false, false, false] (by kernel_rfl) rfl rfl ⟨blk_below HRr.out (below_drew1 (Below.refl _ _)), (blk_cell HPd.out 0).trans rfl, (blk_cell HPd.out 1).trans rfl, HSr.out.below (below_drew1 (Below.refl _ _))⟩ (fun hHeld => ?_)
          refine pure_ (i := 0) (N := some 48) (v := ?_) (a' := ?_) #[true, false, false, false, false, false, false, false, false, false, false, false, false, false, false, false, false, false, false, false, false, false, false, false, false, false, false] rfl rfl (by kernel_rfl) (fun _ _ _ h => h) (Or.inl ⟨by rfl, ?_⟩) ?_ ?_
          rotate_left
          · intro w'
            go_simp
            with_reducible rfl
          rotate_left
          · simp only [Act.put, List.setIfInBounds_toArray, List.set_cons_zero, List.set_cons_succ, i64_w, i32_w]
            rfl
          refine pure_ (i := 1) (N := some 49) (v := ?_) (a' := ?_) #[true, true, false, false, false, false, false, false, false, false, false, false, false, false, false, false, false, false, false, false, false, false, false, false, false, false, false] rfl rfl (by kernel_rfl) (fun _ _ _ h => h) (Or.inl ⟨by rfl, ?_⟩) ?_ ?_
          rotate_left
          · intro w'
            go_simp
            with_reducible rfl
          rotate_left
          · simp only [Act.put, List.setIfInBounds_toArray, List.set_cons_zero, List.set_cons_succ, i64_w, i32_w]
            rfl
          refine pure_ (i := 2) (N := some 50) (v := ?_) (a' := ?_) #[true, true, true, false, false, false, false, false, false, false, false, false, false, false, false, false, false, false, false, false, false, false, false, false, false, false, false] rfl rfl (by kernel_rfl) (fun _ _ _ h => h) (Or.inl ⟨by rfl, ?_⟩) ?_ ?_
          rotate_left
          · intro w'
            go_simp
            with_reducible rfl
          rotate_left
          · simp only [Act.put, List.setIfInBounds_toArray, List.set_cons_zero, List.set_cons_succ, i64_w, i32_w]
            rfl
          refine pure_ (i := 3) (N := some 51) (v := ?_) (a' := ?_) #[true, true, true, true, false, false, false, false, false, false, false, false, false, false, false, false, false, false, false, false, false, false, false, false, false, false, false] rfl rfl (by kernel_rfl) (fun _ _ _ h => h) (Or.inl ⟨by rfl, ?_⟩) ?_ ?_
          rotate_left
          · intro w'
            go_simp
            with_reducible rfl
          rotate_left
          · simp only [Act.put, List.setIfInBounds_toArray, List.set_cons_zero, List.set_cons_succ, i64_w, i32_w]
            rfl
          refine pure_ (i := 4) (N := some 52) (v := ?_) (a' := ?_) #[true, true, true, true, true, false, false, false, false, false, false, false, false, false, false, false, false, false, false, false, false, false, false, false, false, false, false] rfl rfl (by kernel_rfl) (fun _ _ _ h => h) (Or.inl ⟨by rfl, ?_⟩) ?_ ?_
          rotate_left
          · intro w'
            go_simp
            with_reducible rfl
          rotate_left
          · simp only [Act.put, List.setIfInBounds_toArray, List.set_cons_zero, List.set_cons_succ, i64_w, i32_w]
            rfl
          refine pure_ (i := 5) (N := some 53) (v := ?_) (a' := ?_) #[true, true, true, true, true, true, false, false, false, false, false, false, false, false, false, false, false, false, false, false, false, false, false, false, false, false, false] rfl rfl (by kernel_rfl) (fun _ _ _ h => h) (Or.inl ⟨by rfl, ?_⟩) ?_ ?_
          rotate_left
          · intro w'
            go_simp
            with_reducible rfl
          rotate_left
          · simp only [Act.put, List.setIfInBounds_toArray, List.set_cons_zero, List.set_cons_succ, i64_w, i32_w]
            rfl
          refine pure_ (i := 6) (N := some 54) (v := ?_) (a' := ?_) #[true, true, true, true, true, true, true, false, false, false, false, false, false, false, false, false, false, false, false, false, false, false, false, false, false, false, false] rfl rfl (by kernel_rfl) (fun _ _ _ h => h) (Or.inl ⟨by rfl, ?_⟩) ?_ ?_
          rotate_left
          · intro w'
            go_simp
            with_reducible rfl
          rotate_left
          · simp only [Act.put, List.setIfInBounds_toArray, List.set_cons_zero, List.set_cons_succ, i64_w, i32_w]
            rfl
          refine pure_ (i := 9) (N := some 57) (v := ?_) (a' := ?_) #[true, true, true, true, true, true, true, false, false, true, false, false, false, false, false, false, false, false, false, false, false, false, false, false, false, false, false] rfl rfl (by kernel_rfl) (fun _ _ _ h => h) (Or.inl ⟨by rfl, ?_⟩) ?_ ?_
          rotate_left
          · intro w'
            go_simp
            with_reducible rfl
          rotate_left
          · simp only [Act.put, List.setIfInBounds_toArray, List.set_cons_zero, List.set_cons_succ, i64_w, i32_w]
            rfl
          refine pure_ (i := 11) (N := some 59) (v := ?_) (a' := ?_) #[true, true, true, true, true, true, true, false, false, true, false, true, false, false, false, false, false, false, false, false, false, false, false, false, false, false, false] rfl rfl (by kernel_rfl) (fun _ _ _ h => h) (Or.inl ⟨by rfl, ?_⟩) ?_ ?_
          rotate_left
          · intro w'
            go_simp
            with_reducible rfl
          rotate_left
          · simp only [Act.put, List.setIfInBounds_toArray, List.set_cons_zero, List.set_cons_succ, i64_w, i32_w]
            rfl
          refine pure_ (i := 13) (N := some 61) (v := ?_) (a' := ?_) #[true, true, true, true, true, true, true, false, false, true, false, true, false, true, false, false, false, false, false, false, false, false, false, false, false, false, false] rfl rfl (by kernel_rfl) (fun _ _ _ h => h) (Or.inl ⟨by rfl, ?_⟩) ?_ ?_
          rotate_left
          · intro w'
            go_simp
            with_reducible rfl
          rotate_left
          · simp only [Act.put, List.setIfInBounds_toArray, List.set_cons_zero, List.set_cons_succ, i64_w, i32_w]
            rfl
          refine take_ (i := 7) (N := some 55) (v := ?_) (a' := ?_) #[true, true, true, true, true, true, true, true, false, true, false, true, false, true, false, false, false, false, false, false, false, false, false, false, false, false, false] rfl rfl (by kernel_rfl) (fun _ _ _ h => h) (Or.inl ⟨by rfl, ?_⟩) hHeld ?_ ?_
          rotate_left
          · rintro w' ⟨s0, s1, s2, s3⟩
            refine Eq.trans (exec_seg (P := Tryd.prog) 84 (.tmp 54) rfl p 0 rfl [.map (some b1), .map (some b2)] aggS (seg_two s1 s2)) ?_
            with_reducible rfl
          rotate_left
          · simp only [Act.put, List.setIfInBounds_toArray, List.set_cons_zero, List.set_cons_succ, i64_w, i32_w]
            rfl
          refine take_ (i := 10) (N := some 58) (v := ?_) (a' := ?_) #[true, true, true, true, true, true, true, true, false, true, true, true, false, true, false, false, false, false, false, false, false, false, false, false, false, false, false] rfl rfl (by kernel_rfl) (fun _ _ _ h => h) (Or.inl ⟨by rfl, ?_⟩) hHeld ?_ ?_
          rotate_left
          · rintro w' ⟨s0, s1, s2, s3⟩
            have d0_ := (blk_cell s0 0).trans (show _ = some (.int .i64 idx) from rfl)
            go_simp
            with_reducible rfl
          rotate_left
          · simp only [Act.put, List.setIfInBounds_toArray, List.set_cons_zero, List.set_cons_succ, i64_w, i32_w]
            rfl
          refine take_ (i := 12) (N := some 60) (v := ?_) (a' := ?_) #[true, true, true, true, true, true, true, true, false, true, true, true, true, true, false, false, false, false, false, false, false, false, false, false, false, false, false] rfl rfl (by kernel_rfl) (fun _ _ _ h => h) (Or.inl ⟨by rfl, ?_⟩) hHeld ?_ ?_
          rotate_left
          · rintro w' ⟨s0, s1, s2, s3⟩
            have d1_ := (blk_cell s0 1).trans (show _ = some (.int .i64 ep) from rfl)
            go_simp
            with_reducible rfl
          rotate_left
          · simp only [Act.put, List.setIfInBounds_toArray, List.set_cons_zero, List.set_cons_succ, i64_w, i32_w]
            rfl
          refine take_ (i := 14) (N := some 62) (v := ?_) (a' := ?_) #[true, true, true, true, true, true, true, true, false, true, true, true, true, true, true, false, false, false, false, false, false, false, false, false, false, false, false] rfl rfl (by kernel_rfl) (fun _ _ _ h => h) (Or.inl ⟨by rfl, ?_⟩) hHeld ?_ ?_
          rotate_left
          · rintro w' ⟨s0, s1, s2, s3⟩
            have d0_ := (blk_cell s0 0).trans (show _ = some (.int .i64 idx) from rfl)
            go_simp
            with_reducible rfl
          rotate_left
          · simp only [Act.put, List.setIfInBounds_toArray, List.set_cons_zero, List.set_cons_succ, i64_w, i32_w]
            rfl
          refine one_ (i := 8) (N := some 56) #[true, true, true, true, true, true, true, true, true, true, true, true, true, true, true, false, false, false, false, false, false, false, false, false, false, false, false] rfl rfl (by kernel_rfl) (by decide) (fun K hK => ?_)
          refine goes_ Tryd.func56 (by kernel_rfl) rfl #[vS b1 b2] (by rfl) rfl rfl (by first | rfl | (simp; done) | (simp only [List.map_toArray, List.map_cons, List.map_nil]; rfl)) ?_
          with_reducible refine (HCOP.out _ hHeld.2.2.2).mono ?_
          rintro e w9 ⟨c1, c2, rfl, hb9, hge, hcc, hst9⟩
          refine ⟨_, rfl, ?_⟩
          have HP9 := Aside0.mk (blk_below HPd.out hb9)
          have HST9 := Aside0.mk hst9
          refine hK.out _ _ ⟨blk_below hHeld.1 hb9, (hb9.cell (p := ⟨p, 0, none⟩) (World.block_lt_of_cell? _ ⟨p, 0, none⟩ hHeld.2.1)).trans hHeld.2.1, (hb9.cell (p := ⟨p, 1, none⟩) (World.block_lt_of_cell? _ ⟨p, 1, none⟩ hHeld.2.2.1)).trans hHeld.2.2.1, hHeld.2.2.2.below hb9⟩ (fun hHeld => ?_)
          clear hK K
          refine norm_ (a' := ?_) ?_ ?_
          rotate_left
          · show Act.put _ (some 56) _ = _
            simp only [Act.put, List.setIfInBounds_toArray, List.set_cons_zero, List.set_cons_succ, i64_w, i32_w]
            rfl
          refine pure_ (i := 15) (N := some 63) (v := ?_) (a' := ?_) #[true, true, true, true, true, true, true, true, true, true, true, true, true, true, true, true, false, false, false, false, false, false, false, false, false, false, false] rfl rfl (by kernel_rfl) (fun _ _ _ h => h) (Or.inl ⟨by rfl, ?_⟩) ?_ ?_
          rotate_left
          · intro w'
            go_simp
            with_reducible rfl
          rotate_left
          · simp only [Act.put, List.setIfInBounds_toArray, List.set_cons_zero, List.set_cons_succ, i64_w, i32_w]
            rfl
          refine pure_ (i := 16) (N := some 64) (v := ?_) (a' := ?_) #[true, true, true, true, true, true, true, true, true, true, true, true, true, true, true, true, true, false, false, false, false, false, false, false, false, false, false] rfl rfl (by kernel_rfl) (fun _ _ _ h => h) (Or.inl ⟨by rfl, ?_⟩) ?_ ?_
          rotate_left
          · intro w'
            go_simp
            with_reducible rfl
          rotate_left
          · simp only [Act.put, List.setIfInBounds_toArray, List.set_cons_zero, List.set_cons_succ, i64_w, i32_w]
            rfl
          refine one_ (i := 17) (N := none) #[true, true, true, true, true, true, true, true, true, true, true, true, true, true, true, true, true, true, false, false, false, false, false, false, false, false, false] rfl rfl (by kernel_rfl) (by decide) (fun K hK => ?_)
          refine skip_part (P := Tryd.prog) (by rfl) rfl 84 (.tmp 64) (.tmp 56) rfl p 2 _ 86 HP9.out [.map (some c1), .map (some c2)] rfl rfl aggS (by simp) (by simp [Value.oneCell']) (shCells b1 b2 c1 c2 0 0 rv 0) rfl ?_
          intro w13 q1 q2 q3
          refine hK.out _ _ ⟨(q1.block g (blk_lt hHeld.1) (fun e => by injection e with e; have := HNE.out; omega)).trans hHeld.1, (blk_cell q3 0).trans rfl, (blk_cell q3 1).trans rfl, hHeld.2.2.2.same (q1.block b1 hHeld.2.2.2.lt.1 (fun e => by injection e with e; have := HNE.out; omega)) (q1.block b2 hHeld.2.2.2.lt.2 (fun e => by injection e with e; have := HNE.out; omega))⟩ (fun hHeld => ?_)
          clear hK K
          refine pure_ (i := 18) (N := some 65) (v := ?_) (a' := ?_) #[true, true, true, true, true, true, true, true, true, true, true, true, true, true, true, true, true, true, true, false, false, false, false, false, false, false, false] rfl rfl (by kernel_rfl) (fun _ _ _ h => h) (Or.inl ⟨by rfl, ?_⟩) ?_ ?_
          rotate_left
          · intro w'
            go_simp
            with_reducible rfl
          rotate_left
          · simp only [Act.put, List.setIfInBounds_toArray, List.set_cons_zero, List.set_cons_succ, i64_w, i32_w]
            rfl
          refine pure_ (i := 19) (N := some 66) (v := ?_) (a' := ?_) #[true, true, true, true, true, true, true, true, true, true, true, true, true, true, true, true, true, true, true, true, false, false, false, false, false, false, false] rfl rfl (by kernel_rfl) (fun _ _ _ h => h) (Or.inl ⟨by rfl, ?_⟩) ?_ ?_
          rotate_left
          · intro w'
            go_simp
            with_reducible rfl
          rotate_left
          · simp only [Act.put, List.setIfInBounds_toArray, List.set_cons_zero, List.set_cons_succ, i64_w, i32_w]
            rfl
          refine one_ (i := 20) (N := none) #[true, true, true, true, true, true, true, true, true, true, true, true, true, true, true, true, true, true, true, true, true, false, false, false, false, false, false] rfl rfl (by kernel_rfl) (by decide) (fun K hK => ?_)
          have hc4 := (blk_cell q3 4).trans (show _ = some (Value.int .i64 0) from rfl)
          have hf4 := blk_frozen q3 4
          refine skip_ (w1 := ?_) (by rfl) rfl ?_ ?_
          rotate_left
          · go_simp
            rfl
          have hb20 := blk_set q3 4 (.int .i64 idx)
          refine hK.out _ _ ⟨blk_far hHeld.1 HNE.out.1 _, (blk_cell hb20 0).trans rfl, (blk_cell hb20 1).trans rfl, hHeld.2.2.2.same (Below.heap_setCell _ ⟨p, 4, none⟩ _ b1 HNE.out.2.1) (Below.heap_setCell _ ⟨p, 4, none⟩ _ b2 HNE.out.2.2)⟩ (fun hHeld => ?_)
          clear hK K
          refine pure_ (i := 21) (N := some 67) (v := ?_) (a' := ?_) #[true, true, true, true, true, true, true, true, true, true, true, true, true, true, true, true, true, true, true, true, true, true, false, false, false, false, false] rfl rfl (by kernel_rfl) (fun _ _ _ h => h) (Or.inl ⟨by rfl, ?_⟩) ?_ ?_
          rotate_left
          · intro w'
            go_simp
            with_reducible rfl
          rotate_left
          · simp only [Act.put, List.setIfInBounds_toArray, List.set_cons_zero, List.set_cons_succ, i64_w, i32_w]
            rfl
          refine pure_ (i := 22) (N := some 68) (v := ?_) (a' := ?_) #[true, true, true, true, true, true, true, true, true, true, true, true, true, true, true, true, true, true, true, true, true, true, true, false, false, false, false] rfl rfl (by kernel_rfl) (fun _ _ _ h => h) (Or.inl ⟨by rfl, ?_⟩) ?_ ?_
          rotate_left
          · intro w'
            go_simp
            with_reducible rfl
          rotate_left
          · simp only [Act.put, List.setIfInBounds_toArray, List.set_cons_zero, List.set_cons_succ, i64_w, i32_w]
            rfl
          refine one_ (i := 23) (N := none) #[true, true, true, true, true, true, true, true, true, true, true, true, true, true, true, true, true, true, true, true, true, true, true, true, false, false, false] rfl rfl (by kernel_rfl) (by decide) (fun K hK => ?_)
          have hc5 := (blk_cell hb20 5).trans (show _ = some (Value.int .i64 0) from rfl)
          have hf5 := blk_frozen hb20 5
          refine skip_ (w1 := ?_) (by rfl) rfl ?_ ?_
          rotate_left
          · go_simp
            rfl
          have hb23 := blk_set hb20 5 (.int .i64 ep)
          refine hK.out _ _ ⟨blk_far hHeld.1 HNE.out.1 _, (blk_cell hb23 0).trans rfl, (blk_cell hb23 1).trans rfl, hHeld.2.2.2.same (Below.heap_setCell _ ⟨p, 5, none⟩ _ b1 HNE.out.2.1) (Below.heap_setCell _ ⟨p, 5, none⟩ _ b2 HNE.out.2.2)⟩ (fun hHeld => ?_)
          clear hK K
          refine pure_ (i := 24) (N := some 69) (v := ?_) (a' := ?_) #[true, true, true, true, true, true, true, true, true, true, true, true, true, true, true, true, true, true, true, true, true, true, true, true, true, false, false] rfl rfl (by kernel_rfl) (fun _ _ _ h => h) (Or.inl ⟨by rfl, ?_⟩) ?_ ?_
          rotate_left
          · intro w'
            go_simp
            with_reducible rfl
          rotate_left
          · simp only [Act.put, List.setIfInBounds_toArray, List.set_cons_zero, List.set_cons_succ, i64_w, i32_w]
            rfl
          refine pure_ (i := 25) (N := some 70) (v := ?_) (a' := ?_) #[true, true, true, true, true, true, true, true, true, true, true, true, true, true, true, true, true, true, true, true, true, true, true, true, true, true, false] rfl rfl (by kernel_rfl) (fun _ _ _ h => h) (Or.inl ⟨by rfl, ?_⟩) ?_ ?_
          rotate_left
          · intro w'
            go_simp
            with_reducible rfl
          rotate_left
          · simp only [Act.put, List.setIfInBounds_toArray, List.set_cons_zero, List.set_cons_succ, i64_w, i32_w]
            rfl
          refine last_ (i := 26) (N := none) #[true, true, true, true, true, true, true, true, true, true, true, true, true, true, true, true, true, true, true, true, true, true, true, true, true, true, true] rfl rfl (by kernel_rfl) (by decide) (fun K hK => ?_)
          have hc7 := (blk_cell hb23 7).trans (show _ = some (Value.int .i64 0) from rfl)
          have hf7 := blk_frozen hb23 7
          refine skip_ (w1 := ?_) (by rfl) rfl ?_ ?_
          rotate_left
          · go_simp
            rfl
          have hb26 := blk_set hb23 7 (.int .i64 idx)
          refine hK.out _ _ ?_
          clear hK K
          refine done_ (by kernel_rfl) ?_
          obtain ⟨w14, hw14⟩ : ∃ w14, ((w13.setCell ⟨p, 4, none⟩ (.int .i64 idx)).setCell ⟨p, 5, none⟩ (.int .i64 ep)).setCell ⟨p, 7, none⟩ (.int .i64 idx) = w14 := ⟨_, rfl⟩
          have HP14 : Aside0 (w14.heap[p]? = some (.cells (shCells b1 b2 c1 c2 idx ep rv idx) 86 (0, 0))) := ⟨hw14 ▸ hb26⟩
          have hw13 : Ws (fun b => b = p) w9 w13 := Ws.of_grown (P := fun b => b = p) q1 rfl
          have hw134 : Ws (fun b => b = p) w13 w14 := hw14 ▸ ((Ws.of_set (P := fun b => b = p) (b := p) w13 rfl 4 _).trans (Ws.of_set (P := fun b => b = p) (b := p) _ rfl 5 _)).trans (Ws.of_set (P := fun b => b = p) (b := p) _ rfl 7 _)
          have HW914 := Aside0.mk (hw13.trans hw134)
          have HB9 := Aside0.mk (below_step (below_drew1 (Below.refl wr.heap.size wr)) hb9)
          have HCC : Aside0 (wr.heap.size ≤ c1 ∧ c1 < c2) := ⟨by simpa using hge, hcc⟩
          rw [hw14]
          clear hw14 hw13 hw134 hHeld hb9 hge hcc hst9 q1 q2 q3 hb20 hb23 hb26
          go_wp2_with (fail)
          go_ret2
          have ho := HO.out
          have h914 := HW914.out
          have hcc := HCC.out
          have hr14 : Ws (fun b => b = b1 ∨ b = b2 ∨ b = p) w5 w14 := (HWs.out.mono (fun b _ h => h.elim .inl (fun h => .inr (.inl h)))).trans ((Ws.of_below HB9.out).trans (h914.mono (fun b _ h => .inr (.inr h))))
          have hrr : Ws (fun b => b = p) wr w14 := (Ws.of_below HB9.out).trans h914
          have hb14 : Below w1.heap.size w1 w14 := hr14.below HB15.out (fun b hb => by omega)
          have hall := below_then HB.out HB.out.size hb14
          have hsz := HB.out.size
          have hl9 := HST9.out.lt
          have hs5 := hr14.size
          have hs9 := h914.size
          have hlr := HWs.out.size
          refine ⟨p, rfl, by first | exact hall | exact hg ▸ hall, fun k hk => hk.2, fun k hk => hk, ⟨by omega, by omega⟩, b1, b2, c1, c2, rv, ?_, ⟨⟨by omega, by omega⟩, ⟨by omega, by omega⟩, ⟨by omega, by omega⟩, ⟨by omega, by omega⟩⟩, ?_, ?_, ?_, ?_⟩
          · show w14.heap[p]? = some (.cells (shCells b1 b2 c1 c2 t.idx t.epoch rv idx) 86 (0, 0))
            rw [HN.out.1, HN.out.2.1]
            exact HP14.out
          · simp; omega
          · exact HSr.out.ws hrr HNE.out.2.1 HNE.out.2.2
          · exact HST9.out.ws h914 (by omega) (by omega)
          · exact ((HRV5.out.ws hr14 (fun _ _ => trivial)).grow (fun _ _ _ => trivial))
end Go.Proofs.YtgmaedngkhidlaaDoor.Sf
-- SgP
namespace Go.Proofs.YtgmaedngkhidlaaDoor.Sf
open Go Go.RowKit Go.ChangeMaps Go.MapKept Go.Proofs.YtgmaedngkhidlaaDoorW.PrintWords Go.Proofs.YtgmaedngkhidlaaDoorW.PrintLast Go.Proofs.YtgmaedngkhidlaaDoorW.PrintMore
open Go.Maps (Keyed)
set_option linter.unusedVariables false
set_option linter.unusedSimpArgs false
theorem aggDo : AggT Tryd.prog 34 29 := ⟨⟨_, Tryd.underlying34, rfl⟩, by kernel_rfl⟩
structure QOk (k : Dq) : Prop where
  key : KeyL k.key
  xkey : KeyL k.x.key
  val : k.val.size ≤ 9223372036854775807
  xval : k.x.val.size ≤ 9223372036854775807
  cl : (Lit.int .i64 k.client).wf = true
  xcl : (Lit.int .i64 k.x.client).wf = true
  i : (Lit.int .i64 k.i).wf = true
theorem Ky.snoc {s : Sh} (h : Ky s) {x : Rc} (hx : KeyL x.key) : Ky ⟨s.T, s.R ++ [x], s.C⟩ := ⟨h.cell, fun y hy => by
  rcases List.mem_append.1 hy with h1 | h1
  · exact h.rc y h1
  · rw [List.mem_singleton] at h1; rw [h1]; exact hx⟩
theorem Ky.add {s : Sh} (h : Ky s) {x : Rc} (hx : KeyL x.key) : Ky (addP s x).1 := by
  unfold addP
  split
  · exact h
  split
  · exact h
  · exact h.snoc hx
theorem Ky.cut {s : Sh} (h : Ky s) (i : Int) : Ky (cutP s i).1 := by
  unfold cutP
  split
  · exact h
  · exact ⟨h.cell, fun x hx => h.rc x (List.mem_of_mem_take hx)⟩
theorem Ky.settle {s : Sh} (h : Ky s) (i : Int) : Ky (settleP s i).1 := by
  unfold settleP
  split
  · exact h
  · exact ⟨h.cell, h.rc⟩
theorem up_keys {P : List Int → Prop} : ∀ (l : List Rc) (t : Tab), (∀ c ∈ t.cells, P c.key) → (∀ x ∈ l, P x.key) → ∀ c ∈ (upT t l).cells, P c.key
  | [], t, h, _ => h
  | x :: r, t, h, hl => up_keys r (putT t x) (fun c hc => by
      rcases mem_insC hc with e | e
      · rw [e]; exact hl x (List.mem_cons_self ..)
      · exact h c e) (fun y hy => hl y (List.mem_cons_of_mem _ hy))
theorem Ky.fold {s : Sh} (h : Ky s) (i : Int) : Ky (foldP s i).1 := by
  unfold foldP
  split
  · exact h
  · exact ⟨up_keys _ _ h.cell (fun x hx => h.rc x (List.mem_of_mem_take hx)), fun x hx => h.rc x (List.mem_of_mem_drop hx)⟩
theorem next_key (s : Sh) (ep : Int) {k : List Int} (v : ByteArray) (c q : Int) (hk : KeyL k) : KeyL (nextP s ep k v c q).1.key := by
  unfold nextP
  split
  · exact keyL_zero
  split
  · exact keyL_zero
  · exact hk
theorem next_ok {s : Sh} {ep : Int} {k : List Int} {v : ByteArray} {c q : Int} (h : ¬ (nextP s ep k v c q).2 ≠ 0) : (nextP s ep k v c q).1 = nextR s ep k v c q := by
  unfold nextP at h ⊢
  split
  · rename_i h1
    rw [if_pos h1] at h
    exact absurd h1 h
  · rename_i h1
    rw [if_neg h1] at h
    split
    · rename_i h2
      rw [if_pos h2] at h
      exact absurd (by decide) h
    · rfl
theorem Ky.does {s : Sh} (h : Ky s) (O : Int) {k : Dq} (hk : QOk k) : Ky (doesP O s k).1 := by
  unfold doesP
  split
  · exact h.add hk.xkey
  split
  · exact h.cut _
  split
  · exact h.settle _
  split
  · exact h.fold _
  split
  · exact h
  · exact h.add (next_key s _ _ _ _ hk.key)
theorem Acts.done {F G G1 F' G1' : Nat → Prop} {p c : Nat} {w w5 w6 w7 : World} {s' : Sh} (hb : Below w.heap.size w w5) (hc : w.heap.size ≤ c ∧ c < w5.heap.size) (hF : ∀ k, F k → k < w.heap.size) (hG1 : ∀ k, G1 k ↔ (G k ∨ k = c)) (h : Acts F G1 p w5 w6 s' F' G1') (q : w6.grownBy w7 (some c)) : Acts F G p w w7 s' F' G1' := by
  have hw7 : Ws (fun b => b = c) w6 w7 := Ws.of_grown q rfl
  have hs := hb.size
  refine ⟨h.is.other hw7 (fun k hk e => ?_) (fun k e => ?_), ((Ws.of_below hb).trans h.ws).then_ hw7 (fun b e => .inr (by omega)), ⟨h.f.all, fun k hk => h.f.new k (by omega)⟩, ⟨fun k hk => h.g.all k ((hG1 k).2 (.inl hk)), fun k hk hg => ((hG1 k).1 (h.g.new k (by omega) hg)).elim id (fun e => by omega)⟩, fun k hk => Nat.lt_of_lt_of_le (h.lt k hk) hw7.size⟩
  · have h1 := h.f.new k (by omega) hk
    have h2 := hF k h1
    omega
  · exact h.g.all k ((hG1 k).2 (.inr e))
section
variable {F G : Nat → Prop} {p : Nat} {s : Sh}
set_option maxHeartbeats 8000000 in
set_option maxRecDepth 100000 in
theorem does_calls (k : Dq) (w : World) (h : IsS F G w p s) (hGb : ∀ k, G k → k < w.heap.size) (hw : Wf s) (hy : Ky s) (hk : QOk k) (hT : Tabs w) :
    Calls Tryd.prog 31 #[.pointer (some ⟨p, 0, none⟩), .agg (encQ k).toArray] w fun e w' => e = .returned (.tuple #[vR (doesP (bits .and .i64 k.op 7) s k).2.1, .int .i64 (doesP (bits .and .i64 k.op 7) s k).2.2]) ∧ ∃ F' G', Acts F G p w w' (doesP (bits .and .i64 k.op 7) s k).1 F' G' := by
  obtain ⟨O, hO⟩ : ∃ O, bits .and .i64 k.op 7 = O := ⟨_, rfl⟩
  rw [hO]
  obtain ⟨out, hout⟩ : ∃ out, doesP O s k = out := ⟨_, rfl⟩
  rw [hout]
  unfold doesP at hout
  obtain ⟨pl, hpl⟩ : ∃ pl, placeP k O s.C (endI s) = pl := ⟨_, rfl⟩
  rw [hpl] at hout
  have hlo := hw.lo
  have hhi := hw.hi
  have hti := hw.tab.idx
  have hlen := hw.len
  have hEe : endI s = s.T.idx + s.R.length := rfl
  have HPL : Aside0 (∀ w' : World, Calls Tryd.prog 61 #[.agg (encQ k).toArray, .int .i64 s.C, .int .i64 (endI s)] w' fun e w'' => e = .returned (.int .i64 pl) ∧ Below w'.heap.size w' w'') := ⟨fun w' => by
    have := place_calls k s.C (endI s) w' hk.key.len hk.xkey.len (by omega) (by omega) hk.i
    rw [hO, hpl] at this
    exact this⟩
  obtain ⟨E, hE⟩ : ∃ E, endI s = E := ⟨_, rfl⟩
  obtain ⟨cm, hcm⟩ : ∃ cm, s.C = cm := ⟨_, rfl⟩
  obtain ⟨qs, hqs⟩ : ∃ qs, encQ k = qs := ⟨_, rfl⟩
  obtain ⟨g, hg⟩ : ∃ g, w.heap.size = g := ⟨_, rfl⟩
  obtain ⟨w1, hw1⟩ : ∃ w1, w.alloc (.cells qs.toArray 34) = w1 := ⟨_, rfl⟩
  have hs1 : w1.heap.size = g + 1 := by rw [← hw1, ← hg]; simp
  obtain ⟨w2, hw2⟩ : ∃ w2, w1.alloc (.cells zRow.toArray 32) = w2 := ⟨_, rfl⟩
  have hb1 : Below w.heap.size w w1 := hw1 ▸ below_alloc (Below.refl _ _) _
  have hb2 : Below w.heap.size w w2 := below_then hb1 hb1.size (hw2 ▸ below_alloc (Below.refl _ _) _)
  have hQ1 : w1.heap[g]? = some (.cells qs.toArray 34) := hg ▸ hw1 ▸ at_alloc w _
  have hQ2 : w2.heap[g]? = some (.cells qs.toArray 34) := hw2 ▸ under_alloc hQ1 _
  have hZ2 : w2.heap[g + 1]? = some (.cells zRow.toArray 32) := hs1 ▸ hw2 ▸ at_alloc w1 _
  obtain ⟨G1, hG1⟩ : ∃ G1 : Nat → Prop, ∀ k, G1 k ↔ (G k ∨ k = g + 1) := ⟨fun k => G k ∨ k = g + 1, fun _ => Iff.rfl⟩
  have h0 : IsS F G1 w p s := h.grow (fun k hk => (hG1 k).2 (.inl (h.fg k hk))) (fun b hb hg1 => ((hG1 b).1 hg1).elim id (fun e => by omega))
  have HQA : Aside0 (∀ w' : World, w'.heap[g]? = some (.cells qs.toArray 34 (0, 0)) → DoAt (fun j => w'.cell? ⟨g, j, none⟩) k) := ⟨fun w' h => doAt (f := fun j => w'.cell? ⟨g, j, none⟩) hk.key.len (hqs ▸ blk_get h)⟩
  have HLQ : Aside0 (qs.length = 29) := ⟨hqs ▸ encQ_len hk.key.len hk.xkey.len⟩
  have HCMT : Aside0 (∀ w' : World, IsS F G1 w' p s → Calls Tryd.prog 30 #[.pointer (some ⟨p, 0, none⟩)] w' fun e w'' => e = .returned (.int .i64 cm) ∧ Below w'.heap.size w' w'') := ⟨fun w' h' => by
    refine (Commit_calls h').mono ?_
    rintro e w'' ⟨h1, rfl⟩
    exact ⟨hcm ▸ h1, Below.refl _ _⟩⟩
  have HLA := Aside0.mk (Last_calls (h0.below hb2) hw)
  rw [hE] at HLA
  rw [hqs, hcm, hE] at HPL
  obtain ⟨ea, hea⟩ : ∃ ea, (lastT s).epoch = ea := ⟨_, rfl⟩
  rw [hea] at HLA
  rw [hqs]
  have HOut := Aside0.mk hout
  have HW := Aside0.mk (And.intro hw1 hw2)
  have HB2 := Aside0.mk hb2
  have HQ2 := Aside0.mk hQ2
  have HZ2 := Aside0.mk hZ2
  have HI2 := Aside0.mk (h0.below hb2)
  have HT2 := Aside0.mk (hT.below hb2)
  have HSZ : Aside0 (w.heap.size = g ∧ w2.heap.size = g + 2) := ⟨hg, by rw [← hw2]; simp [hs1]⟩
  have HG1 := Aside0.mk hG1
  have HGB := Aside0.mk hGb
  have HH := Aside0.mk h
  have HWf := Aside0.mk hw
  have HKy := Aside0.mk hy
  have HK := Aside0.mk hk
  have HBZ : Aside0 (Tryd.prog.built 32 [] = some zRow.toArray) := ⟨by kernel_rfl⟩
  clear hout hlo hhi hti hlen hEe hpl hE hcm hqs hw1 hs1 hw2 hb1 hb2 hQ1 hQ2 hZ2 hG1 h0 hea h hGb hw hy hk hT
  go_enter Tryd.func31, Tryd.ntmps31
  go_upto_region 1 with (fail)
  rw [HW.out.1, HW.out.2]
  go_upto_region 2 with (go_at_call 35; refine HLA.out.mono ?_; rintro e w3 ⟨rfl, ⟨nd, rfl⟩⟩)
  have HBd := Aside0.mk (pw_below_drewN (Below.refl w2.heap.size w2) nd)
  have HQd := Aside0.mk (blk_below HQ2.out HBd.out)
  have HId := Aside0.mk (HI2.out.below HBd.out)
  refine start_ (n := 6) (S := fun w' => w'.heap[g]? = some (.cells qs.toArray 34 (0, 0)) ∧ IsS F G1 w' p s ∧ Below w2.heap.size w2 w') (ds := []) #[false, false, false, false, false, false] (by kernel_rfl) rfl rfl ⟨blk_below HQd.out (below_drew1 (Below.refl _ _)), HId.out.below (below_drew1 (Below.refl _ _)), below_drew1 HBd.out⟩ (fun hHeld => ?_)
  refine pure_ (i := 1) (N := some 17) (v := ?_) (a' := ?_) #[false, true, false, false, false, false] rfl rfl (by kernel_rfl) (fun _ _ _ h => h) (Or.inl ⟨by rfl, ?_⟩) ?_ ?_
  rotate_left
  · intro w'
    go_simp
    with_reducible rfl
  rotate_left
  · simp only [Act.put, List.setIfInBounds_toArray, List.set_cons_zero, List.set_cons_succ, i64_w, i32_w]
    rfl
  refine pure_ (i := 3) (N := some 19) (v := ?_) (a' := ?_) #[false, true, false, true, false, false] rfl rfl (by kernel_rfl) (fun _ _ _ h => h) (Or.inl ⟨by rfl, ?_⟩) ?_ ?_
  rotate_left
  · intro w'
    go_simp
    with_reducible rfl
  rotate_left
  · simp only [Act.put, List.setIfInBounds_toArray, List.set_cons_zero, List.set_cons_succ, i64_w, i32_w]
    rfl
  refine take_ (i := 0) (N := some 16) (v := ?_) (a' := ?_) #[true, true, false, true, false, false] rfl rfl (by kernel_rfl) (fun _ _ _ h => h) (Or.inl ⟨by rfl, ?_⟩) hHeld ?_ ?_
  rotate_left
  · rintro w' ⟨s0, s1, s2⟩
    refine Eq.trans (exec_seg (P := Tryd.prog) 34 (.tmp 3) rfl g 0 rfl qs (by rw [HLQ.out]; exact aggDo) (SegAt.blk (t := 34) (fr := (0, 0)) s0)) ?_
    with_reducible rfl
  rotate_left
  · simp only [Act.put, List.setIfInBounds_toArray, List.set_cons_zero, List.set_cons_succ, i64_w, i32_w]
    rfl
  refine one_ (i := 2) (N := some 18) #[true, true, true, true, false, false] rfl rfl (by kernel_rfl) (by decide) (fun K hK => ?_)
  refine goes_ Tryd.func30 (by kernel_rfl) rfl #[.pointer (some ⟨p, 0, none⟩)] (by rfl) rfl rfl (by first | rfl | (simp; done) | (simp only [List.map_toArray, List.map_cons, List.map_nil]; rfl)) ?_
  with_reducible refine (HCMT.out _ hHeld.2.1).mono ?_
  rintro e w4 ⟨rfl, hb4⟩
  refine ⟨_, rfl, ?_⟩
  refine hK.out _ _ ⟨blk_below hHeld.1 hb4, hHeld.2.1.below hb4, below_step hHeld.2.2 hb4⟩ (fun hHeld => ?_)
  clear hK K
  refine norm_ (a' := ?_) ?_ ?_
  rotate_left
  · show Act.put _ (some 18) _ = _
    simp only [Act.put, List.setIfInBounds_toArray, List.set_cons_zero, List.set_cons_succ, i64_w, i32_w]
    rfl
  refine one_ (i := 4) (N := some 20) #[true, true, true, true, true, false] rfl rfl (by kernel_rfl) (by decide) (fun K hK => ?_)
  refine goes_ Tryd.func61 (by kernel_rfl) rfl #[.agg qs.toArray, .int .i64 cm, .int .i64 E] (by rfl) rfl rfl (by first | rfl | (simp; done) | (simp only [List.map_toArray, List.map_cons, List.map_nil]; rfl)) ?_
  with_reducible refine (HPL.out _).mono ?_
  rintro e w5 ⟨rfl, hb5⟩
  refine ⟨_, rfl, ?_⟩
  refine hK.out _ _ ⟨blk_below hHeld.1 hb5, hHeld.2.1.below hb5, below_step hHeld.2.2 hb5⟩ (fun hHeld => ?_)
  clear hK K
  refine norm_ (a' := ?_) ?_ ?_
  rotate_left
  · show Act.put _ (some 20) _ = _
    simp only [Act.put, List.setIfInBounds_toArray, List.set_cons_zero, List.set_cons_succ, i64_w, i32_w]
    rfl
  refine pure_ (i := 5) (N := some 8) (v := ?_) (a' := ?_) #[true, true, true, true, true, true] rfl rfl (by kernel_rfl) (fun _ _ _ h => h) (Or.inl ⟨by rfl, ?_⟩) ?_ ?_
  rotate_left
  · intro w'
    go_simp
    with_reducible rfl
  rotate_left
  · simp only [Act.put, List.setIfInBounds_toArray, List.set_cons_zero, List.set_cons_succ, i64_w, i32_w]
    rfl
  refine done_ (by kernel_rfl) ?_
  have HQ5 := Aside0.mk hHeld.1
  have HI5 := Aside0.mk hHeld.2.1
  have HB25 := Aside0.mk hHeld.2.2
  have HZ5 := Aside0.mk (blk_below HZ2.out hHeld.2.2)
  have HT5 := Aside0.mk (HT2.out.below hHeld.2.2)
  have HB5 := Aside0.mk (below_then HB2.out HB2.out.size hHeld.2.2)
  have HC5 : Aside0 (w.heap.size ≤ g + 1 ∧ g + 1 < w5.heap.size) := ⟨by have := HSZ.out; have := hHeld.2.2.size; omega⟩
  have HGB5 : Aside0 (∀ k, G1 k → k < w5.heap.size) := ⟨fun k hk => by
    have := HB5.out.size
    rcases (HG1.out k).1 hk with h | h
    · have := HGB.out k h; omega
    · have := HC5.out; omega⟩
  have HNF : Aside0 (¬ F (g + 1)) := ⟨fun hf => by have := HH.out.lt _ hf; have := HSZ.out; omega⟩
  have r0 : w5.cell? ⟨g, 0, none⟩ = some (.int .i64 k.op) := (HQA.out w5 hHeld.1).op
  clear hHeld HCMT HPL HLA HBd HQd HId
  by_cases c3 : O = 3
  · have d3 : (O == 3) = true := by simpa using c3
    have ho := HOut.out
    rw [if_pos c3] at ho
    subst ho
    have HADD : Aside0 (Calls Tryd.prog 21 #[.pointer (some ⟨p, 0, none⟩), .agg (encR k.x).toArray] w5 fun e w' => e = .returned (.int .i64 (addP s k.x).2) ∧ Acts F G1 p w5 w' (addP s k.x).1 F G1) := ⟨(Add_calls k.x w5 HI5.out HGB5.out HWf.out HK.out.xkey HK.out.xval HK.out.xcl HT5.out).mono (fun e w' h => ⟨h.1, Acts.same h.2.2 h.2.1 HGB5.out⟩)⟩
    have HXS : Aside0 (SegAt w5 g 15 (encR k.x)) := ⟨fun j v hj => (HQA.out w5 HQ5.out).x j v hj⟩
    have HXL : Aside0 ((encR k.x).length = 14) := ⟨encR_len HK.out.xkey.len⟩
    obtain ⟨xs, hxs⟩ : ∃ xs, encR k.x = xs := ⟨_, rfl⟩
    rw [hxs] at HADD HXS HXL
    clear c3 hxs HOut
    go_wp2_with (first
      | ((with_reducible refine gate_dst (N := 26) rfl ?_); go_must (refine wpList_built (P := Tryd.prog) rfl 32 _ rfl [] (by simp) _ HBZ.out ?_))
      | ((with_reducible refine gate_dst (N := 29) rfl ?_); go_must (refine wpList_seg (P := Tryd.prog) rfl 32 (.tmp 28) rfl g 15 rfl xs (by rw [HXL.out]; exact aggR) HXS.out ?_))
      | (go_at_call 21; refine HADD.out.mono ?_; rintro e w6 ⟨rfl, H6⟩; have H6 := Aside0.mk H6)
      | ((with_reducible refine gate_ (.store 32 (.tmp 4) (.tmp 26)) rfl ?_); go_must (refine wpList_row (P := Tryd.prog) rfl 32 (.tmp 4) (.tmp 26) rfl (g + 1) _ 32 ((H6.out.ws.block (g + 1) (blk_lt HZ5.out) HNF.out).trans HZ5.out) zRow rfl rfl aggR rfl (zRow_eq ▸ encR_one zR) ?_); intro w7 r1 r2 r3))
    refine bodyPost_ret (results_ct rfl _ _ (g + 1) 32 zRow.toArray (0, 0) _ (by rfl) r3 Tryd.underlying32 rfl (by kernel_rfl)) rfl ?_
    exact ⟨rfl, F, G1, Acts.done HB5.out HC5.out HH.out.lt HG1.out H6.out r1⟩
  have d3 : (O == 3) = false := by simpa using c3
  have ho := HOut.out
  rw [if_neg c3] at ho
  have HO4 := Aside0.mk ho
  clear ho HOut
  by_cases c4 : O = 4
  · have d4 : (O == 4) = true := by simpa using c4
    have ho := HO4.out
    rw [if_pos c4] at ho
    subst ho
    have HCUT := Aside0.mk (Cut_calls pl w5 HI5.out HGB5.out HWf.out HKy.out)
    clear c3 c4 HO4
    go_wp2_with (first
      | ((with_reducible refine gate_dst (N := 33) rfl ?_); go_must (refine wpList_built (P := Tryd.prog) rfl 32 _ rfl [] (by simp) _ HBZ.out ?_))
      | (go_at_call 41; refine HCUT.out.mono ?_; rintro e w6 ⟨rfl, F2, G2, H6⟩; have H6 := Aside0.mk H6)
      | ((with_reducible refine gate_ (.store 32 (.tmp 4) (.tmp 33)) rfl ?_); go_must (refine wpList_row (P := Tryd.prog) rfl 32 (.tmp 4) (.tmp 33) rfl (g + 1) _ 32 ((H6.out.ws.block (g + 1) (blk_lt HZ5.out) HNF.out).trans HZ5.out) zRow rfl rfl aggR rfl (zRow_eq ▸ encR_one zR) ?_); intro w7 r1 r2 r3))
    refine bodyPost_ret (results_ct rfl _ _ (g + 1) 32 zRow.toArray (0, 0) _ (by rfl) r3 Tryd.underlying32 rfl (by kernel_rfl)) rfl ?_
    exact ⟨rfl, F2, G2, Acts.done HB5.out HC5.out HH.out.lt HG1.out H6.out r1⟩
  have d4 : (O == 4) = false := by simpa using c4
  have ho := HO4.out
  rw [if_neg c4] at ho
  have HO5 := Aside0.mk ho
  clear ho HO4
  by_cases c5 : O = 5
  · have d5 : (O == 5) = true := by simpa using c5
    have ho := HO5.out
    rw [if_pos (.inl c5)] at ho
    subst ho
    have HSE : Aside0 (Calls Tryd.prog 50 #[.pointer (some ⟨p, 0, none⟩), .int .i64 pl] w5 fun e w' => e = .returned (.int .i64 (settleP s pl).2) ∧ Acts F G1 p w5 w' (settleP s pl).1 F G1) := ⟨(Settle_calls pl w5 HI5.out HWf.out).mono (fun e w' h => ⟨h.1, Acts.same h.2.2 h.2.1 HGB5.out⟩)⟩
    clear c3 c4 c5 HO5
    go_wp2_with (first
      | ((with_reducible refine gate_dst (N := 40) rfl ?_); go_must (refine wpList_built (P := Tryd.prog) rfl 32 _ rfl [] (by simp) _ HBZ.out ?_))
      | (go_at_call 50; refine HSE.out.mono ?_; rintro e w6 ⟨rfl, H6⟩; have H6 := Aside0.mk H6)
      | ((with_reducible refine gate_ (.store 32 (.tmp 4) (.tmp 40)) rfl ?_); go_must (refine wpList_row (P := Tryd.prog) rfl 32 (.tmp 4) (.tmp 40) rfl (g + 1) _ 32 ((H6.out.ws.block (g + 1) (blk_lt HZ5.out) HNF.out).trans HZ5.out) zRow rfl rfl aggR rfl (zRow_eq ▸ encR_one zR) ?_); intro w7 r1 r2 r3))
    refine bodyPost_ret (results_ct rfl _ _ (g + 1) 32 zRow.toArray (0, 0) _ (by rfl) r3 Tryd.underlying32 rfl (by kernel_rfl)) rfl ?_
    exact ⟨rfl, F, G1, Acts.done HB5.out HC5.out HH.out.lt HG1.out H6.out r1⟩
  have d5 : (O == 5) = false := by simpa using c5
  by_cases c6 : O = 6
  · have d6 : (O == 6) = true := by simpa using c6
    have ho := HO5.out
    rw [if_pos (.inr c6)] at ho
    subst ho
    have HSE : Aside0 (Calls Tryd.prog 50 #[.pointer (some ⟨p, 0, none⟩), .int .i64 pl] w5 fun e w' => e = .returned (.int .i64 (settleP s pl).2) ∧ Acts F G1 p w5 w' (settleP s pl).1 F G1) := ⟨(Settle_calls pl w5 HI5.out HWf.out).mono (fun e w' h => ⟨h.1, Acts.same h.2.2 h.2.1 HGB5.out⟩)⟩
    clear c3 c4 c5 c6 HO5
    go_wp2_with (first
      | ((with_reducible refine gate_dst (N := 40) rfl ?_); go_must (refine wpList_built (P := Tryd.prog) rfl 32 _ rfl [] (by simp) _ HBZ.out ?_))
      | (go_at_call 50; refine HSE.out.mono ?_; rintro e w6 ⟨rfl, H6⟩; have H6 := Aside0.mk H6)
      | ((with_reducible refine gate_ (.store 32 (.tmp 4) (.tmp 40)) rfl ?_); go_must (refine wpList_row (P := Tryd.prog) rfl 32 (.tmp 4) (.tmp 40) rfl (g + 1) _ 32 ((H6.out.ws.block (g + 1) (blk_lt HZ5.out) HNF.out).trans HZ5.out) zRow rfl rfl aggR rfl (zRow_eq ▸ encR_one zR) ?_); intro w7 r1 r2 r3))
    refine bodyPost_ret (results_ct rfl _ _ (g + 1) 32 zRow.toArray (0, 0) _ (by rfl) r3 Tryd.underlying32 rfl (by kernel_rfl)) rfl ?_
    exact ⟨rfl, F, G1, Acts.done HB5.out HC5.out HH.out.lt HG1.out H6.out r1⟩
  have d6 : (O == 6) = false := by simpa using c6
  have ho := HO5.out
  rw [if_neg (fun h => h.elim c5 c6)] at ho
  have HO7 := Aside0.mk ho
  clear ho HO5
  by_cases c7 : O = 7
  · have d7 : (O == 7) = true := by simpa using c7
    have ho := HO7.out
    rw [if_pos c7] at ho
    subst ho
    have HFO := Aside0.mk (Fold_calls pl w5 HI5.out HGB5.out HWf.out HKy.out)
    clear c3 c4 c5 c6 c7 HO7
    go_wp2_with (first
      | ((with_reducible refine gate_dst (N := 46) rfl ?_); go_must (refine wpList_built (P := Tryd.prog) rfl 32 _ rfl [] (by simp) _ HBZ.out ?_))
      | (go_at_call 44; refine HFO.out.mono ?_; rintro e w6 ⟨rfl, F2, G2, H6⟩; have H6 := Aside0.mk H6)
      | ((with_reducible refine gate_ (.store 32 (.tmp 4) (.tmp 46)) rfl ?_); go_must (refine wpList_row (P := Tryd.prog) rfl 32 (.tmp 4) (.tmp 46) rfl (g + 1) _ 32 ((H6.out.ws.block (g + 1) (blk_lt HZ5.out) HNF.out).trans HZ5.out) zRow rfl rfl aggR rfl (zRow_eq ▸ encR_one zR) ?_); intro w7 r1 r2 r3))
    refine bodyPost_ret (results_ct rfl _ _ (g + 1) 32 zRow.toArray (0, 0) _ (by rfl) r3 Tryd.underlying32 rfl (by kernel_rfl)) rfl ?_
    exact ⟨rfl, F2, G2, Acts.done HB5.out HC5.out HH.out.lt HG1.out H6.out r1⟩
  have d7 : (O == 7) = false := by simpa using c7
  have ho := HO7.out
  rw [if_neg c7] at ho
  have HO8 := Aside0.mk ho
  clear ho HO7 c3 c4 c5 c6 c7
  have HDA := Aside0.mk (HQA.out w5 HQ5.out)
  have HNX := Aside0.mk (Next_calls k.epoch k.key k.val k.client k.seq w5 HI5.out HWf.out HK.out.key HK.out.val HK.out.cl HT5.out)
  have r1 : w5.cell? ⟨g, 1, none⟩ = some (.int .i64 k.epoch) := HDA.out.epoch
  have r12 : w5.cell? ⟨g, 12, none⟩ = some (.string k.val) := HDA.out.val
  have HKS : Aside0 (SegAt w5 g 4 (encK k.key)) := ⟨fun j v hj => HDA.out.key j v hj⟩
  have HKL : Aside0 ((encK k.key).length = 8) := ⟨encK_len HK.out.key.len⟩
  have HQS : Aside0 (SegAt w5 g 13 [.int .i64 k.client, .int .i64 k.seq]) := ⟨seg_two HDA.out.client HDA.out.seq⟩
  obtain ⟨ks, hks⟩ : ∃ ks, encK k.key = ks := ⟨_, rfl⟩
  have HNX2 : Aside0 (Calls Tryd.prog 17 #[.pointer (some ⟨p, 0, none⟩), .int .i64 k.epoch, .agg ks.toArray, .string k.val, vQ k.client k.seq] w5 fun e w' => e = .returned (.tuple #[vR (nextP s k.epoch k.key k.val k.client k.seq).1, .int .i64 (nextP s k.epoch k.key k.val k.client k.seq).2]) ∧ Below w5.heap.size w5 w') := ⟨hks ▸ HNX.out⟩
  rw [hks] at HKS HKL
  obtain ⟨x, hx⟩ : ∃ x, (nextP s k.epoch k.key k.val k.client k.seq).1 = x := ⟨_, rfl⟩
  obtain ⟨er, her⟩ : ∃ er, (nextP s k.epoch k.key k.val k.client k.seq).2 = er := ⟨_, rfl⟩
  have hxk : KeyL x.key := hx ▸ next_key s _ _ _ _ HK.out.key
  have HXK := Aside0.mk hxk
  have hnx : nextP s k.epoch k.key k.val k.client k.seq = (x, er) := by rw [← hx, ← her]
  have HNP := Aside0.mk hnx
  rw [hnx] at HNX2
  have ho := HO8.out
  rw [hnx] at ho
  have HO9 := Aside0.mk ho
  obtain ⟨xs, hxs⟩ : ∃ xs, encR x = xs := ⟨_, rfl⟩
  have HXS := Aside0.mk hxs
  have HXL : Aside0 (xs.length = 14) := ⟨hxs ▸ encR_len hxk.len⟩
  have HX1 : Aside0 (∀ v ∈ xs, v.oneCell' = true) := ⟨hxs ▸ encR_one x⟩
  have HNX3 : Aside0 (Calls Tryd.prog 17 #[.pointer (some ⟨p, 0, none⟩), .int .i64 k.epoch, .agg ks.toArray, .string k.val, vQ k.client k.seq] w5 fun e w' => e = .returned (.tuple #[.agg xs.toArray, .int .i64 er]) ∧ Below w5.heap.size w5 w') := ⟨hxs ▸ HNX2.out⟩
  clear hks hx her hxk hnx ho HO8 hxs HNX HNX2 HDA
  go_upto_region 14 with (first
    | ((with_reducible refine gate_dst (N := 55) rfl ?_); go_must (refine wpList_seg (P := Tryd.prog) rfl 28 (.tmp 54) rfl g 4 rfl ks (by rw [HKL.out]; exact aggK) HKS.out ?_))
    | ((with_reducible refine gate_dst (N := 59) rfl ?_); go_must (refine wpList_seg (P := Tryd.prog) rfl 30 (.tmp 58) rfl g 13 rfl [.int .i64 k.client, .int .i64 k.seq] aggQ HQS.out ?_))
    | (go_at_call 17; refine HNX3.out.mono ?_; rintro e w6 ⟨rfl, hb6⟩)
    | ((with_reducible refine gate_ (.store 32 (.tmp 9) (.tmp 61)) rfl ?_); go_must (refine wpList_fill (P := Tryd.prog) rfl 32 (.tmp 9) (.tmp 61) rfl xs _ rfl rfl (by rw [HXL.out]; exact aggR) (by rw [HXL.out]; rfl) HX1.out ?_)))
  obtain ⟨w7, hw7⟩ : ∃ w7, w6.alloc (.cells xs.toArray 32) = w7 := ⟨_, rfl⟩
  have hb7 : Below w6.heap.size w6 w7 := hw7 ▸ below_alloc (Below.refl _ _) _
  have HA7 := Aside0.mk (show w7.heap[w6.heap.size]? = some (.cells xs.toArray 32) from hw7 ▸ at_alloc w6 _)
  have HB57 := Aside0.mk (below_then hb6 hb6.size hb7)
  have HI7 := Aside0.mk (HI5.out.below HB57.out)
  have HZ7 := Aside0.mk (blk_below HZ5.out HB57.out)
  have HT7 := Aside0.mk (HT5.out.below HB57.out)
  rw [hw7]
  have h56 := hb6.size
  obtain ⟨b, hbb⟩ : ∃ b, w6.heap.size = b := ⟨_, rfl⟩
  rw [hbb] at HA7 h56 ⊢
  have HBG : Aside0 (w5.heap.size ≤ b) := ⟨h56⟩
  clear hw7 hb7 hb6 hbb h56 r0 r1 r12
  by_cases ce : er = 0
  · have de : (er != 0) = false := by simpa using ce
    have ho := HO9.out
    rw [if_neg (fun h => h ce)] at ho
    subst ho
    have HADD : Aside0 (∀ w' : World, Below w5.heap.size w5 w' → Calls Tryd.prog 21 #[.pointer (some ⟨p, 0, none⟩), .agg xs.toArray] w' fun e w'' => e = .returned (.int .i64 (addP s x).2) ∧ Acts F G1 p w' w'' (addP s x).1 F G1) := ⟨fun w' hb => by
      have hnx := next_ok (s := s) (ep := k.epoch) (k := k.key) (v := k.val) (c := k.client) (q := k.seq) (by rw [HNP.out]; exact fun h => h ce)
      rw [HNP.out] at hnx
      have hgb : ∀ k, G1 k → k < w'.heap.size := fun k hk => Nat.lt_of_lt_of_le (HGB5.out k hk) hb.size
      have := Add_calls x w' (HI5.out.below hb) hgb HWf.out HXK.out (by rw [show x = _ from hnx]; exact HK.out.val) (by rw [show x = _ from hnx]; exact HK.out.cl) (HT5.out.below hb)
      dsimp only [vR] at this
      rw [HXS.out] at this
      exact this.mono (fun e w'' h => ⟨h.1, Acts.same h.2.2 h.2.1 hgb⟩)⟩
    subst ce
    go_upto_region 16 with (fail)
    refine start_ (n := 6) (S := fun w' => w'.heap[b]? = some (.cells xs.toArray 32 (0, 0)) ∧ w'.heap[g + 1]? = some (.cells zRow.toArray 32 (0, 0))) (ds := [4]) #[false, false, false, false, false, false] (by kernel_rfl) rfl rfl ⟨blk_below HA7.out (below_drew1 (Below.refl _ _)), blk_below HZ7.out (below_drew1 (Below.refl _ _))⟩ (fun hHeld => ?_)
    refine pure_ (i := 1) (N := some 68) (v := ?_) (a' := ?_) #[false, true, false, false, false, false] rfl rfl (by kernel_rfl) (fun _ _ _ h => h) (Or.inl ⟨by rfl, ?_⟩) ?_ ?_
    rotate_left
    · intro w'
      go_simp
      with_reducible rfl
    rotate_left
    · simp only [Act.put, List.setIfInBounds_toArray, List.set_cons_zero, List.set_cons_succ, i64_w, i32_w]
      rfl
    refine take_ (i := 0) (N := some 67) (v := ?_) (a' := ?_) #[true, true, false, false, false, false] rfl rfl (by kernel_rfl) (fun _ _ _ h => h) (Or.inl ⟨by rfl, ?_⟩) hHeld ?_ ?_
    rotate_left
    · rintro w' ⟨s0, s1⟩
      refine Eq.trans (exec_seg (P := Tryd.prog) 32 (.tmp 9) rfl b 0 rfl xs (by rw [HXL.out]; exact aggR) (SegAt.blk (t := 32) (fr := (0, 0)) s0)) ?_
      with_reducible rfl
    rotate_left
    · simp only [Act.put, List.setIfInBounds_toArray, List.set_cons_zero, List.set_cons_succ, i64_w, i32_w]
      rfl
    refine take_ (i := 2) (N := some 69) (v := ?_) (a' := ?_) #[true, true, true, false, false, false] rfl rfl (by kernel_rfl) (fun _ _ _ h => h) (Or.inl ⟨by rfl, ?_⟩) hHeld ?_ ?_
    rotate_left
    · rintro w' ⟨s0, s1⟩
      refine Eq.trans (exec_seg (P := Tryd.prog) 32 (.tmp 9) rfl b 0 rfl xs (by rw [HXL.out]; exact aggR) (SegAt.blk (t := 32) (fr := (0, 0)) s0)) ?_
      with_reducible rfl
    rotate_left
    · simp only [Act.put, List.setIfInBounds_toArray, List.set_cons_zero, List.set_cons_succ, i64_w, i32_w]
      rfl
    refine one_ (i := 3) (N := some 70) #[true, true, true, true, false, false] rfl rfl (by kernel_rfl) (by decide) (fun K hK => ?_)
    refine goes_ Tryd.func21 (by kernel_rfl) rfl #[.pointer (some ⟨p, 0, none⟩), .agg xs.toArray] (by rfl) rfl rfl (by first | rfl | (simp; done) | (simp only [List.map_toArray, List.map_cons, List.map_nil]; rfl)) ?_
    with_reducible refine (HADD.out _ (below_drew1 HB57.out)).mono ?_
    rintro e w9 ⟨rfl, H9⟩
    refine ⟨_, rfl, ?_⟩
    have H9 := Aside0.mk H9
    refine hK.out _ _ ⟨(H9.out.ws.block b (blk_lt hHeld.1) (by have := HBG.out; exact fun e => by have := HI5.out.lt _ e; omega)).trans hHeld.1, (H9.out.ws.block (g + 1) (blk_lt hHeld.2) HNF.out).trans hHeld.2⟩ (fun hHeld => ?_)
    clear hK K
    refine norm_ (a' := ?_) ?_ ?_
    rotate_left
    · show Act.put _ (some 70) _ = _
      simp only [Act.put, List.setIfInBounds_toArray, List.set_cons_zero, List.set_cons_succ, i64_w, i32_w]
      rfl
    refine last_ (i := 4) (N := none) #[true, true, true, true, true, false] rfl rfl (by kernel_rfl) (by decide) (fun K hK => ?_)
    refine skip_row (P := Tryd.prog) (by rfl) rfl 32 (.tmp 4) (.tmp 67) rfl (g + 1) _ 32 hHeld.2 xs rfl rfl (by rw [HXL.out]; exact aggR) (by rw [HXL.out]; rfl) HX1.out ?_
    intro w10 q1 q2 q3
    refine hK.out _ _ ?_
    clear hK K
    refine pure_ (i := 5) (N := some 5) (v := ?_) (a' := ?_) #[true, true, true, true, true, true] rfl rfl (by kernel_rfl) (fun _ _ _ h => h) (Or.inl ⟨by rfl, ?_⟩) ?_ ?_
    rotate_left
    · intro w'
      go_simp
      with_reducible rfl
    rotate_left
    · simp only [Act.put, List.setIfInBounds_toArray, List.set_cons_zero, List.set_cons_succ, i64_w, i32_w]
      rfl
    refine done_ (by kernel_rfl) ?_
    go_wp2_with (fail)
    refine bodyPost_ret (results_ct rfl _ _ (g + 1) 32 xs.toArray (0, 0) _ (by rfl) q3 Tryd.underlying32 rfl (by rw [List.size_toArray, HXL.out]; kernel_rfl)) rfl ?_
    have hact : Acts F G1 p w5 w9 (addP s x).1 F G1 := Acts.start (below_drew1 HB57.out) H9.out
    exact ⟨by dsimp only [vR]; rw [HXS.out]; rfl, F, G1, Acts.done HB5.out HC5.out HH.out.lt HG1.out hact q1⟩
  · have de : (er != 0) = true := by simpa using ce
    have ho := HO9.out
    rw [if_pos ce] at ho
    subst ho
    clear ce
    go_wp2_with (first
      | ((with_reducible refine gate_dst (N := 65) rfl ?_); go_must (refine wpList_seg (P := Tryd.prog) rfl 32 (.tmp 9) rfl b 0 rfl xs (by rw [HXL.out]; exact aggR) (SegAt.blk (t := 32) (fr := (0, 0)) HA7.out) ?_))
      | ((with_reducible refine gate_ (.store 32 (.tmp 4) (.tmp 65)) rfl ?_); go_must (refine wpList_row (P := Tryd.prog) rfl 32 (.tmp 4) (.tmp 65) rfl (g + 1) _ 32 HZ7.out xs rfl rfl (by rw [HXL.out]; exact aggR) (by rw [HXL.out]; rfl) HX1.out ?_); intro w8 r1 r2 r3))
    refine bodyPost_ret (results_ct rfl _ _ (g + 1) 32 xs.toArray (0, 0) _ (by rfl) r3 Tryd.underlying32 rfl (by rw [List.size_toArray, HXL.out]; kernel_rfl)) rfl ?_
    have hact : Acts F G1 p w5 w7 s F G1 := Acts.same HI7.out (Ws.of_below HB57.out) HGB5.out
    exact ⟨by dsimp only [vR]; rw [HXS.out]; rfl, F, G1, Acts.done HB5.out HC5.out HH.out.lt HG1.out hact r1⟩
end
end Go.Proofs.YtgmaedngkhidlaaDoor.Sf
-- SgQ
namespace Go.Proofs.YtgmaedngkhidlaaDoor.Sf
open Go Go.RowKit Go.ChangeMaps Go.MapKept Go.Proofs.YtgmaedngkhidlaaDoorW.PrintWords Go.Proofs.YtgmaedngkhidlaaDoorW.PrintLast Go.Proofs.YtgmaedngkhidlaaDoorW.PrintMore
open Go.Maps (Keyed)
set_option linter.unusedVariables false
set_option linter.unusedSimpArgs false
def nextS (s : Sh) (k : Dq) : Sh := (doesP (bits .and .i64 k.op 7) s k).1
def madeS (t : Tab) (l : List Dq) : Sh := l.foldl nextS ⟨t, [], t.idx⟩
theorem goWf : ∀ (l : List Dq) (s : Sh), Wf s → Wf (l.foldl nextS s)
  | [], _, h => h
  | k :: r, s, h => goWf r (nextS s k) (h.does _ k)
theorem goKy : ∀ (l : List Dq) (s : Sh), Ky s → (∀ k ∈ l, QOk k) → Ky (l.foldl nextS s)
  | [], _, h, _ => h
  | k :: r, s, h, hk => goKy r (nextS s k) (h.does _ (hk k (List.mem_cons_self ..))) (fun x hx => hk x (List.mem_cons_of_mem _ hx))
theorem go_snoc {l : List Dq} {s : Sh} {j : Nat} {k : Dq} (hj : l[j]? = some k) : (l.take (j + 1)).foldl nextS s = nextS ((l.take j).foldl nextS s) k := by
  obtain ⟨hl, he⟩ := List.getElem?_eq_some_iff.1 hj
  rw [List.take_succ_eq_append_getElem hl, List.foldl_append, he]
  rfl
theorem Ky.new {t : Tab} (h : ∀ c ∈ t.cells, KeyL c.key) : Ky ⟨t, [], t.idx⟩ := ⟨h, fun x hx => by cases hx⟩
theorem C_cellsQ {A : Option Addr} {n : Nat} {R : List Dq} {w : World} (h : kQ.C w A n R) (i : Nat) (hi : i < R.length) : ∃ ad, A = some ad ∧ (encQ R[i]).length = 29 ∧ ∀ j v, (encQ R[i])[j]? = some v → w.cell? ((ad.add (i * 29)).add j) = some v := by
  obtain ⟨hn, _, hc0⟩ := h
  obtain ⟨ad, rfl, hc1⟩ := hc0 (by omega)
  obtain ⟨cs, hl, ⟨he, hl2⟩, hcc⟩ := hc1 i R[i] (List.getElem?_eq_getElem hi)
  refine ⟨ad, rfl, by rw [← he]; exact hl2, fun j v hj => ?_⟩
  rw [add_add]
  exact hcc j v (by rw [he]; exact hj)
end Go.Proofs.YtgmaedngkhidlaaDoor.Sf
-- SgT
namespace Go.Proofs.YtgmaedngkhidlaaDoor.Sf
open Go Go.RowKit Go.ChangeMaps Go.MapKept Go.Proofs.YtgmaedngkhidlaaDoorW.PrintWords Go.Proofs.YtgmaedngkhidlaaDoorW.PrintLast Go.Proofs.YtgmaedngkhidlaaDoorW.PrintMore
open Go.Maps (Keyed)
set_option linter.unusedVariables false
set_option linter.unusedSimpArgs false
def tA : ByteArray := ⟨#[97]⟩
def tX : ByteArray := ⟨#[120]⟩
def tY : ByteArray := ⟨#[121]⟩
def kA : List Int := [97, 0, 0, 0, 0, 0, 0, 0]
def xA : Rc := ⟨1, 1, kA, 1, tX, 0, 1⟩
def sA : Sh := ⟨sh0.T, [xA], 0⟩
def sB : Sh := ⟨sh0.T, [xA], 1⟩
theorem keyA : keyP tA = (kA, 0) := by kernel_rfl
theorem kA_L : KeyL kA := ⟨rfl, by decide⟩
theorem nextA : nextP sh0 1 kA tX 0 1 = (xA, 0) := by kernel_rfl
theorem addA : addP sh0 xA = (sA, 0) := by kernel_rfl
theorem nextB : nextP sA 1 kA tY 0 1 = (zR, 153) := by kernel_rfl
theorem cleanA : cleanP sA kA = zC := by kernel_rfl
theorem settleA : settleP sA 1 = (sB, 0) := by kernel_rfl
theorem cleanB : cleanP sB kA = ⟨kA, 1, tX⟩ := by kernel_rfl
theorem eqZK (w : World) : (Op.equalIn 9999 28 (.agg #[.int .u8 0, .int .u8 0, .int .u8 0, .int .u8 0, .int .u8 0, .int .u8 0, .int .u8 0, .int .u8 0]) (.agg #[.int .u8 0, .int .u8 0, .int .u8 0, .int .u8 0, .int .u8 0, .int .u8 0, .int .u8 0, .int .u8 0])).run Tryd.prog w = .ok true w := by kernel_rfl
theorem wf0 : Wf sh0 := Wf.new (t := ⟨0, 0, [], []⟩) (check_ok.1 (by kernel_rfl))
theorem wfA : Wf sA := by
  have := wf0.add xA
  rw [addA] at this
  exact this
theorem wfB : Wf sB := by
  have := wfA.settle 1
  rw [settleA] at this
  exact this
theorem kyA : Ky sA := ⟨fun c hc => (by cases hc), fun x hx => (by rw [List.mem_singleton.1 hx]; exact kA_L)⟩
theorem kyB : Ky sB := ⟨fun c hc => (by cases hc), kyA.rc⟩
set_option maxHeartbeats 8000000 in
set_option maxRecDepth 100000 in
theorem awake_calls (w : World) (hT : Tabs w) : Calls Tryd.prog 15 #[] w fun e w' => e = .returned (.bool true) ∧ Below w.heap.size w w' := by
  obtain ⟨ks, hks⟩ : ∃ ks, encK kA = ks := ⟨_, rfl⟩
  obtain ⟨xs, hxs⟩ : ∃ xs, encR xA = xs := ⟨_, rfl⟩
  have HKEY : Aside0 (∀ w' : World, Calls Tryd.prog 49 #[.string ⟨#[97]⟩] w' fun e w'' => e = .returned (.agg ks.toArray) ∧ Below w'.heap.size w' w'') := ⟨fun w' => by
    have := key_calls tA w'
    rw [keyA] at this
    exact hks ▸ this⟩
  have HN1 : Aside0 (∀ {F G : Nat → Prop} {p : Nat} (w' : World), IsS F G w' p sh0 → Tabs w' → Calls Tryd.prog 17 #[.pointer (some ⟨p, 0, none⟩), .int .i64 1, .agg ks.toArray, .string ⟨#[120]⟩, vQ 0 1] w' fun e w'' => e = .returned (.tuple #[.agg xs.toArray, .int .i64 0]) ∧ Below w'.heap.size w' w'') := ⟨fun w' h' ht => by
    have := Next_calls 1 kA tX 0 1 w' h' wf0 kA_L (by decide) rfl ht
    rw [nextA] at this
    exact hks ▸ hxs ▸ this⟩
  have HADD : Aside0 (∀ {F G : Nat → Prop} {p : Nat} (w' : World), IsS F G w' p sh0 → (∀ k, G k → k < w'.heap.size) → Tabs w' → Calls Tryd.prog 21 #[.pointer (some ⟨p, 0, none⟩), .agg xs.toArray] w' fun e w'' => e = .returned (.int .i64 0) ∧ Ws F w' w'' ∧ IsS F G w'' p sA) := ⟨fun w' h' hg ht => by
    have := Add_calls xA w' h' hg wf0 kA_L (by decide) rfl ht
    rw [addA] at this
    exact hxs ▸ this⟩
  have HN2 : Aside0 (∀ {F G : Nat → Prop} {p : Nat} (w' : World), IsS F G w' p sA → Tabs w' → Calls Tryd.prog 17 #[.pointer (some ⟨p, 0, none⟩), .int .i64 1, .agg ks.toArray, .string ⟨#[121]⟩, vQ 0 1] w' fun e w'' => e = .returned (.tuple #[.agg zRow.toArray, .int .i64 153]) ∧ Below w'.heap.size w' w'') := ⟨fun w' h' ht => by
    have := Next_calls 1 kA tY 0 1 w' h' wfA kA_L (by decide) rfl ht
    rw [nextB] at this
    exact hks ▸ this⟩
  have HC1 : Aside0 (∀ {F G : Nat → Prop} {p : Nat} (w' : World), IsS F G w' p sA → Calls Tryd.prog 37 #[.pointer (some ⟨p, 0, none⟩), .agg ks.toArray] w' fun e w'' => e = .returned (.agg zCel.toArray) ∧ Below w'.heap.size w' w'') := ⟨fun w' h' => by
    have := Clean_calls kA w' h' wfA kyA kA_L
    rw [cleanA] at this
    exact hks ▸ this⟩
  have HSE : Aside0 (∀ {F G : Nat → Prop} {p : Nat} (w' : World), IsS F G w' p sA → Calls Tryd.prog 50 #[.pointer (some ⟨p, 0, none⟩), .int .i64 1] w' fun e w'' => e = .returned (.int .i64 0) ∧ Ws F w' w'' ∧ IsS F G w'' p sB) := ⟨fun w' h' => by
    have := Settle_calls 1 w' h' wfA
    rw [settleA] at this
    exact this⟩
  have HC2 : Aside0 (∀ {F G : Nat → Prop} {p : Nat} (w' : World), IsS F G w' p sB → Calls Tryd.prog 37 #[.pointer (some ⟨p, 0, none⟩), .agg ks.toArray] w' fun e w'' => e = .returned (vC ⟨kA, 1, ⟨#[120]⟩⟩) ∧ Below w'.heap.size w' w'') := ⟨fun w' h' => by
    have := Clean_calls kA w' h' wfB kyB kA_L
    rw [cleanB] at this
    exact hks ▸ this⟩
  have HDI : Aside0 (∀ {F G : Nat → Prop} {p : Nat} (w' : World), IsS F G w' p sB → Calls Tryd.prog 36 #[.pointer (some ⟨p, 0, none⟩)] w' fun e w'' => e = .returned (.int .i64 0) ∧ Drawn0 w' w'') := ⟨fun w' h' => Dirty_calls h' wfB⟩
  have HXL : Aside0 (xs.length = 14) := ⟨hxs ▸ rfl⟩
  have HX1 : Aside0 (∀ v ∈ xs, v.oneCell' = true) := ⟨hxs ▸ encR_one xA⟩
  have HXA : Aside0 (∀ (w' : World) (b : Nat), w'.heap[b]? = some (.cells xs.toArray 32 (0, 0)) → w'.cell? ⟨b, 0, none⟩ = some (.int .i64 1) ∧ w'.cell? ⟨b, 10, none⟩ = some (.int .i64 1)) := ⟨fun w' b h => by
    have R := recAt (f := fun j => w'.cell? ⟨b, j, none⟩) (x := xA) rfl (hxs ▸ blk_get h)
    exact ⟨R.idx, R.ver⟩⟩
  have HT := Aside0.mk hT
  have HBQ : Aside0 (Tryd.prog.built 30 [(0, .int .i64 0), (1, .int .i64 1)] = some #[.int .i64 0, .int .i64 1]) := ⟨by kernel_rfl⟩
  have HBC : Aside0 (Tryd.prog.built 45 [] = some zCel.toArray) := ⟨by kernel_rfl⟩
  have HZ1 : Aside0 (∀ v ∈ zCel, v.oneCell' = true) := ⟨encC_one zC⟩
  clear hks hxs hT
  go_enter Tryd.func15, Tryd.ntmps15
  go_upto_region 2 with (go_at_call 48; refine (New_calls w).mono ?_; rintro e w1 ⟨p, rfl, hb1, hn1⟩)
  obtain ⟨F, hF⟩ : ∃ F : Nat → Prop, (fun k => w.heap.size ≤ k ∧ k < w1.heap.size) = F := ⟨_, rfl⟩
  have HF : Aside0 (∀ k, F k → w.heap.size ≤ k ∧ k < w1.heap.size) := ⟨fun k hk => by rw [← hF] at hk; exact hk⟩
  have HI1 : Aside0 (IsS F F w1 p sh0) := ⟨by have := hn1 F (fun k h1 h2 => by rw [← hF]; exact ⟨h1, h2⟩); rw [hF] at this; exact this⟩
  have HB1 := Aside0.mk hb1
  have HT1 := Aside0.mk (HT.out.below hb1)
  clear hF hn1 hb1
  go_upto_region 3 with (first
    | (go_at_call 49; refine (HKEY.out w1).mono ?_; rintro e w2 ⟨rfl, hb2⟩; have HB2 := Aside0.mk hb2; clear hb2)
    | ((with_reducible refine gate_dst (N := 11) rfl ?_); go_must (refine wpList_built (P := Tryd.prog) rfl 30 _ rfl [(0, .int .i64 0), (1, .int .i64 1)] (by simp only [List.map_toArray, List.map_cons, List.map_nil]; rfl) _ HBQ.out ?_))
    | (go_at_call 17; refine (HN1.out w2 (HI1.out.below HB2.out) (HT1.out.below HB2.out)).mono ?_; rintro e w3 ⟨rfl, hb3⟩; have HB3 := Aside0.mk hb3; clear hb3)
    | ((with_reducible refine gate_ (.store 32 (.tmp 2) (.tmp 13)) rfl ?_); go_must (refine wpList_fill (P := Tryd.prog) rfl 32 (.tmp 2) (.tmp 13) rfl xs _ rfl rfl (by rw [HXL.out]; exact aggR) (by rw [HXL.out]; rfl) HX1.out ?_)))
  obtain ⟨w4, hw4⟩ : ∃ w4, w3.alloc (.cells xs.toArray 32) = w4 := ⟨_, rfl⟩
  have hb4 : Below w3.heap.size w3 w4 := hw4 ▸ below_alloc (Below.refl _ _) _
  have hA4 : w4.heap[w3.heap.size]? = some (.cells xs.toArray 32) := hw4 ▸ at_alloc w3 _
  have hb14 := below_then HB2.out HB2.out.size (below_then HB3.out HB3.out.size hb4)
  have HI4 := Aside0.mk (HI1.out.below hb14)
  have HT4 := Aside0.mk (HT1.out.below hb14)
  have HB4 := Aside0.mk (below_then HB1.out HB1.out.size hb14)
  have HA4 := Aside0.mk hA4
  have HG4 : Aside0 (∀ k, F k → k < w4.heap.size) := ⟨fun k hk => Nat.lt_of_lt_of_le (HF.out k hk).2 hb14.size⟩
  rw [hw4]
  obtain ⟨b, hb⟩ : ∃ b, w3.heap.size = b := ⟨_, rfl⟩
  rw [hb] at HA4 ⊢
  have r0 := (HXA.out w4 b HA4.out).1
  have r10 := (HXA.out w4 b HA4.out).2
  clear hw4 hb4 hA4 hb14 hb HB2 HB3 HI1 HT1
  go_upto_region 5 with (first
    | ((with_reducible refine gate_dst (N := 29) rfl ?_); refine gate_guard (by rfl) ?_; go_must (refine wpList_seg (P := Tryd.prog) rfl 32 (.tmp 2) rfl b 0 rfl xs (by rw [HXL.out]; exact aggR) (SegAt.blk (t := 32) (fr := (0, 0)) HA4.out) ?_))
    | (go_at_call 21; refine (HADD.out w4 HI4.out HG4.out HT4.out).mono ?_; rintro e w5 ⟨rfl, H5⟩; have H5 := Aside0.mk H5))
  have HI5 := Aside0.mk H5.out.2
  have HB5 := Aside0.mk (H5.out.1.below HB4.out (fun k hk => (HF.out k hk).1))
  have HT5 := Aside0.mk (HT.out.below HB5.out)
  clear r0 r10 HA4 HI4 HT4 HB4 H5
  go_upto_region 6 with (first
    | (go_at_call 49; refine (HKEY.out w5).mono ?_; rintro e w6 ⟨rfl, hb6⟩; have HB6 := Aside0.mk hb6; clear hb6)
    | ((with_reducible refine gate_dst (N := 36) rfl ?_); go_must (refine wpList_built (P := Tryd.prog) rfl 30 _ rfl [(0, .int .i64 0), (1, .int .i64 1)] (by simp only [List.map_toArray, List.map_cons, List.map_nil]; rfl) _ HBQ.out ?_))
    | (go_at_call 17; refine (HN2.out w6 (HI5.out.below HB6.out) (HT5.out.below HB6.out)).mono ?_; rintro e w7 ⟨rfl, hb7⟩; have HB7 := Aside0.mk hb7; clear hb7)
    | ((with_reducible refine gate_ (.store 32 (.tmp 4) (.tmp 38)) rfl ?_); go_must (refine wpList_fill (P := Tryd.prog) rfl 32 (.tmp 4) (.tmp 38) rfl zRow _ rfl rfl aggR rfl (zRow_eq ▸ encR_one zR) ?_)))
  obtain ⟨w8, hw8⟩ : ∃ w8, w7.alloc (.cells zRow.toArray 32) = w8 := ⟨_, rfl⟩
  have hb8 : Below w7.heap.size w7 w8 := hw8 ▸ below_alloc (Below.refl _ _) _
  have hb58 := below_then HB6.out HB6.out.size (below_then HB7.out HB7.out.size hb8)
  have HI8 := Aside0.mk (HI5.out.below hb58)
  have HB8 := Aside0.mk (below_then HB5.out HB5.out.size hb58)
  rw [hw8]
  obtain ⟨b4, hb4⟩ : ∃ b4, w7.heap.size = b4 := ⟨_, rfl⟩
  rw [hb4]
  clear hw8 hb8 hb58 hb4 HB6 HB7 HI5 HT5 HB5
  go_upto_region 7 with (first
    | (go_at_call 49; refine (HKEY.out w8).mono ?_; rintro e w9 ⟨rfl, hb9⟩; have HB9 := Aside0.mk hb9; clear hb9)
    | (go_at_call 37; refine (HC1.out w9 (HI8.out.below HB9.out)).mono ?_; rintro e w10 ⟨rfl, hb10⟩; have HB10 := Aside0.mk hb10; clear hb10)
    | ((with_reducible refine gate_ (.store 45 (.tmp 6) (.tmp 42)) rfl ?_); go_must (refine wpList_fill (P := Tryd.prog) rfl 45 (.tmp 6) (.tmp 42) rfl zCel _ rfl rfl aggC rfl HZ1.out ?_)))
  obtain ⟨w11, hw11⟩ : ∃ w11, w10.alloc (.cells zCel.toArray 45) = w11 := ⟨_, rfl⟩
  have hb11 : Below w10.heap.size w10 w11 := hw11 ▸ below_alloc (Below.refl _ _) _
  have hA11 : w11.heap[w10.heap.size]? = some (.cells zCel.toArray 45) := hw11 ▸ at_alloc w10 _
  have hb811 := below_then HB9.out HB9.out.size (below_then HB10.out HB10.out.size hb11)
  have HI11 := Aside0.mk (HI8.out.below hb811)
  have HB11 := Aside0.mk (below_then HB8.out HB8.out.size hb811)
  have HA11 := Aside0.mk hA11
  rw [hw11]
  obtain ⟨b6, hb6⟩ : ∃ b6, w10.heap.size = b6 := ⟨_, rfl⟩
  rw [hb6] at HA11 ⊢
  clear hw11 hb11 hA11 hb811 hb6 HB9 HB10 HI8 HB8
  go_wp2_with (first
    | ((with_reducible refine gate_dst (N := 46) rfl ?_); refine gate_guard (by rfl) ?_; go_must (refine wpList_seg (P := Tryd.prog) rfl 45 (.tmp 6) rfl b6 0 rfl zCel aggC (SegAt.blk (t := 45) (fr := (0, 0)) HA11.out) ?_))
    | ((with_reducible refine gate_dst (N := 47) rfl ?_); refine gate_guard (by rfl) ?_; go_must (refine wpList_built (P := Tryd.prog) rfl 45 _ rfl [] (by simp) _ HBC.out ?_))
    | (rw [eqZK]; simp only [Result.andThen, Bool.true_eq_false, ↓reduceIte]; rw [Oper.upon_value])
    | (go_at_call 50; refine (HSE.out w11 HI11.out).mono ?_; rintro e w12 ⟨rfl, H12⟩; have H12 := Aside0.mk H12)
    | (go_at_call 49; refine (HKEY.out w12).mono ?_; rintro e w13 ⟨rfl, hb13⟩; have HB13 := Aside0.mk hb13; clear hb13)
    | (go_at_call 37; refine (HC2.out w13 (H12.out.2.below HB13.out)).mono ?_; rintro e w14 ⟨rfl, hb14⟩; have HB14 := Aside0.mk hb14; clear hb14)
    | (rw [field_C2 kA_L.len 1 ⟨#[120]⟩]; simp only [Result.andThen]; rw [Oper.upon_value])
    | (go_at_call 36; refine (HDI.out w14 ((H12.out.2.below HB13.out).below HB14.out)).mono ?_; rintro e w15 ⟨rfl, ⟨nd, rfl⟩⟩))
  go_ret
  have h12 := H12.out.1.below HB11.out (fun k hk => (HF.out k hk).1)
  have h14 := below_then h12 h12.size (below_then HB13.out HB13.out.size HB14.out)
  exact ⟨rfl, below_then h14 h14.size (pw_below_drewN (Below.refl _ _) nd)⟩
end Go.Proofs.YtgmaedngkhidlaaDoor.Sf
-- SgU
namespace Go.Proofs.YtgmaedngkhidlaaDoor.Sf
open Go Go.RowKit Go.ChangeMaps Go.MapKept Go.Proofs.YtgmaedngkhidlaaDoorW.PrintWords Go.Proofs.YtgmaedngkhidlaaDoorW.PrintLast Go.Proofs.YtgmaedngkhidlaaDoorW.PrintMore
open Go.Maps (Keyed)
set_option linter.unusedVariables false
set_option linter.unusedSimpArgs false
theorem behind_all {s : Sh} (hw : Wf s) : behindP s s.T.idx 99 = (s.R, true) := by
  unfold behindP endI
  rw [if_neg (by omega), Int.sub_self]
  show ((s.R.drop 0).take 99, true) = _
  have := hw.len
  rw [List.drop_zero, List.take_of_length_le (by omega)]
theorem exec_lit1 {P : Program} {o : Oper} {a : Act} {w w1 : World} {v y1 : Value} (t : TypeId) (y : Operand) (ho : o.op = .buildSlice t 1 #[(0, y)]) (hy : a.eval y = y1) (hr : (Instr.buildSlice t 1 #[(0, y1)]).run P w = .ok v w1) : (execOp a.eval o).run P w = .ok (.value v) w1 := by
  unfold execOp
  simp only [ho, List.map_toArray, List.map_cons, List.map_nil, hy, hr, Sem.run_bind, Sem.run_pure, Result.andThen_ok]
end Go.Proofs.YtgmaedngkhidlaaDoor.Sf
