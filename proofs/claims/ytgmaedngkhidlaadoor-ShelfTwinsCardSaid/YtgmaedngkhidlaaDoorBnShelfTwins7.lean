/- Texts that the row of LawShelfTwins rests on, part 7 of 12: contracts of the functions, their walks, plain laws. -/
import Derived.Test.YtgmaedngkhidlaaDoorBnShelfTwins6
import Derived.Lib.SliceRun
set_option linter.unusedSimpArgs false
-- SgE
namespace Go.Proofs.YtgmaedngkhidlaaDoor.Sf
open Go Go.RowKit Go.ChangeMaps Go.MapKept Go.Proofs.YtgmaedngkhidlaaDoorW.PrintWords Go.Proofs.YtgmaedngkhidlaaDoorW.PrintLast Go.Proofs.YtgmaedngkhidlaaDoorW.PrintMore
open Go.Maps (Keyed)
set_option linter.unusedVariables false
set_option linter.unusedSimpArgs false
theorem lit_none (w : World) : (Instr.buildSlice 47 0 #[]).run Tryd.prog w = .ok (.slice (some ⟨w.heap.size, 0, none⟩) 0 0) (w.alloc (.cells #[] 32 (0, 0))) := by kernel_rfl
theorem clone_rec {G : Nat → Prop} {w : World} {ad : Addr} {R : List Rc} {b c : Nat} (hC : kR.C w (some ad) R.length R) (hl : R.length ≤ 24) (hG : ¬ G w.heap.size) (hGb : ¬ G b) (ty : TypeId) :
    ∃ v w', (Builtin.append_ #[47, 47] ty #[.slice (some ⟨b, 0, none⟩) 0 0, .slice (some ad) R.length c]).run Tryd.prog w = .ok v w' ∧ Below w.heap.size w w' ∧ RV G w' v R := by
  have hks := keys_of hC
  have hfl := flatR_len hks
  have ht : Tryd.prog.underlying 47 = some (.slice 32) := by kernel_rfl
  have hsz := aggR.size
  have hby : (Tryd.prog.info? 32).map (·.bytes) = some 64 := by kernel_rfl
  have hz0 : (Tryd.prog.info? 32).bind (·.zero) = some (.agg zRow.toArray) := by kernel_rfl
  cases hi : Tryd.prog.info? 32 with
  | none => rw [hi] at hsz; cases hsz
  | some i =>
    rw [hi] at hsz hby hz0
    have hs : i.size = 14 := by simpa using hsz
    have hy : i.bytes = 64 := by simpa using hby
    have hz : i.zero = some (.agg zRow.toArray) := by simpa using hz0
    have hsrc := Src.ofSlice (P := Tryd.prog) w (size := i.size) ht ad R.length c (flatR R) (by rw [hfl, hs]) (row_cells hC) (flatR_one R)
    by_cases h0 : R = []
    · subst h0
      have hrun := run_append_room_src (P := Tryd.prog) w 47 47 ty 32 i ht hi b 0 0 0 _ 0 [] hsrc (Nat.le_refl _) (fun j hj => absurd hj (by simp)) (fun j hj => absurd hj (by simp))
      exact ⟨_, _, hrun, Below.refl _ _, Kd.V_mk (xs := ([] : List Rc)) (Nat.le_refl _) (fun W' _ => ⟨rfl, by simp, fun h => absurd h (Nat.lt_irrefl 0)⟩)⟩
    · have hp : 0 < R.length := List.length_pos_iff.2 h0
      have hrun := run_append_grow_src (P := Tryd.prog) w 47 47 ty 32 i (.agg zRow.toArray) ht hi hz (some ⟨b, 0, none⟩) 0 0 [] (run_firstCells_some w.drew i.size 0 ⟨b, 0, none⟩ 0 0 [] (by simp) (fun j v hj => by simp at hj)) _ R.length (flatR R) hsrc (by omega) (by omega) (by rw [hy, nextslicecap_zero (by omega)]; omega)
      rw [Nat.zero_add] at hrun
      refine ⟨_, _, hrun, below_then (below_drew1 (Below.refl _ _)) (Nat.le_refl _) (below_alloc (Below.refl _ _) _), ?_⟩
      have hc := grownCap_ge w R.length 0 32
      exact rv_block (G := G) (c := grownCap w R.length 0 32) (R := R) (at_alloc w.drew (.cells (([] ++ flatR R).toArray ++ Builtin.zeroCells (Value.agg zRow.toArray).cells (grownCap w R.length 0 32 - R.length)) 32 (0, 0))) hG hks (fun j v hj => by
        have hjl := (List.getElem?_eq_some_iff.1 hj).1
        rw [List.nil_append, Array.getElem?_append_left (by simpa using hjl), List.getElem?_toArray]
        exact hj) hc (by omega)
theorem exec_lit0 {P : Program} {o : Oper} {a : Act} {w w1 : World} {v : Value} (t : TypeId) (ho : o.op = .buildSlice t 0 #[]) (hr : (Instr.buildSlice t 0 #[]).run P w = .ok v w1) : (execOp a.eval o).run P w = .ok (.value v) w1 := by
  unfold execOp
  simp only [ho, List.map_toArray, List.map_nil, hr, Sem.run_bind, Sem.run_pure, Result.andThen_ok]
theorem exec_app {P : Program} {o : Oper} {a : Act} {w w1 : World} {v y1 z1 : Value} (y z : Operand) (t : TypeId) (ho : o.op = .call { callee := .builtin .append, args := #[y, z], argTypes := #[t, t] }) (hy : a.eval y = y1) (hz : a.eval z = z1) (hr : (Builtin.append_ #[t, t] o.type #[y1, z1]).run P w = .ok v w1) : (execOp a.eval o).run P w = .ok (.value v) w1 := by
  unfold execOp
  simp only [ho, resolve, invoke, builtin, Sem.run_bind, Sem.run_pure, Result.andThen_ok, List.map_toArray, List.map_cons, List.map_nil, hy, hz, hr]
set_option maxHeartbeats 8000000 in
set_option maxRecDepth 100000 in
theorem Clone_calls {G : Nat → Prop} (A : Option Addr) (c : Nat) (R : List Rc) (w : World) (hC : kR.C w A R.length R) (hl : R.length ≤ 24) (hGb : ∀ k, w.heap.size ≤ k → ¬ G k) :
    Calls Tryd.prog 54 #[.slice A R.length c] w fun e w' => ∃ v, e = .returned v ∧ Below w.heap.size w w' ∧ RV G w' v R := by
  cases A with
  | none =>
    have h0 : R = [] := by
      cases R with
      | nil => rfl
      | cons y r => obtain ⟨ad, e, _⟩ := hC.2.2 (by simp); cases e
    subst h0
    clear hC hl hGb
    go_enter Tryd.func54, Tryd.ntmps54
    go_wp2_with (rw [Go.Lib.run_eql_slice_nil w 47 32 _ _ _ _ _ (by kernel_rfl)]; simp only [Result.andThen, Option.isNone]; rw [Oper.upon_value])
    go_ret
    exact ⟨_, rfl, Below.refl _ _, Kd.V_nil _ _ _ _ _⟩
  | some ad =>
    obtain ⟨w1, hw1⟩ : ∃ w1, w.alloc (.cells #[] 32 (0, 0)) = w1 := ⟨_, rfl⟩
    have hb1 : Below w.heap.size w w1 := hw1 ▸ below_alloc (Below.refl _ _) _
    have hs1 : w1.heap.size = w.heap.size + 1 := by rw [← hw1]; simp
    have hL := lit_none w
    rw [hw1] at hL
    have HL := Aside0.mk hL
    have hap := fun ty => clone_rec (G := G) (b := w.heap.size) (c := c) (Kd.C_below hC hb1) hl (hGb _ hb1.size) (hGb _ (Nat.le_refl _)) ty
    have HAP := Aside0.mk hap
    have HB1 := Aside0.mk hb1
    clear hC hl hGb hw1 hb1 hs1 hL hap
    go_enter Tryd.func54, Tryd.ntmps54
    go_upto_region 3 with (rw [Go.Lib.run_eql_slice_nil w 47 32 _ _ _ _ _ (by kernel_rfl)]; simp only [Result.andThen, Option.isNone]; rw [Oper.upon_value])
    obtain ⟨v, w2, hrun, hb2, hrv⟩ := HAP.out 47
    have HR := Aside0.mk hrun
    have HB2 := Aside0.mk (And.intro hb2 hrv)
    clear hrun hb2 hrv HAP
    go_wp2_with (first
      | ((with_reducible refine gate_dst (N := 5) rfl ?_); go_must (refine Kd.event_run rfl (exec_lit0 (P := Tryd.prog) 47 rfl HL.out) ?_))
      | ((with_reducible refine gate_dst (N := 7) rfl ?_); go_must (refine Kd.event_run rfl (exec_app (P := Tryd.prog) (.tmp 5) (.tmp 6) 47 rfl rfl rfl HR.out) ?_)))
    go_ret
    exact ⟨v, rfl, below_then HB1.out HB1.out.size HB2.out.1, HB2.out.2⟩
end Go.Proofs.YtgmaedngkhidlaaDoor.Sf
-- SgF
namespace Go.Proofs.YtgmaedngkhidlaaDoor.Sf
open Go Go.RowKit Go.ChangeMaps Go.MapKept Go.Proofs.YtgmaedngkhidlaaDoorW.PrintWords Go.Proofs.YtgmaedngkhidlaaDoorW.PrintLast Go.Proofs.YtgmaedngkhidlaaDoorW.PrintMore
open Go.Maps (Keyed)
set_option linter.unusedVariables false
set_option linter.unusedSimpArgs false
theorem slice_low (w : World) (A : Option Addr) (n c : Nat) (m : Int) (h0 : 0 ≤ m) (hm : m ≤ n) : (Instr.sliceAt 47 (.slice A n c) (some (.int .i64 m)) none none).run Tryd.prog w = .ok (.slice (if c = m.toNat then A else A.map (·.add (m.toNat * 14))) (n - m.toNat) (c - m.toNat)) w := by
  have ht : Tryd.prog.underlying 47 = some (.slice (Tryd.prog.elem 47)) := by kernel_rfl
  rw [run_sliceAt_slice w 47 _ _ _ _ ht, run_slice_l w 47 A n c ht .i64 m h0 hm]
  have hs : (sizeOf (Tryd.prog.elem 47)).run Tryd.prog w = .ok 14 w := by kernel_rfl
  rw [hs]
  rfl
theorem slice_high (w : World) (A : Option Addr) (n c : Nat) (m : Nat) (hm : m ≤ c) : (Instr.sliceAt 47 (.slice A n c) none (some (.int .i64 (m : Int))) none).run Tryd.prog w = .ok (.slice A m c) w := by
  have ht : Tryd.prog.underlying 47 = some (.slice (Tryd.prog.elem 47)) := by kernel_rfl
  rw [run_sliceAt_slice w 47 _ _ _ _ ht, run_slice_h w 47 A n c ht .i64 (m : Int) (by omega) (by omega)]
  have hs : (sizeOf (Tryd.prog.elem 47)).run Tryd.prog w = .ok 14 w := by kernel_rfl
  rw [hs]
  cases A <;> simp [Result.andThen, sliced, add_zero']
section
variable {o : Oper} {a : Act} {w : World}
theorem exec_low (x lo : Operand) (ho : o.op = .slice 47 x (some lo) none none) (A : Option Addr) (n c : Nat) (m : Int) (h0 : 0 ≤ m) (hm : m ≤ n) (hx : a.eval x = .slice A n c) (hl : a.eval lo = .int .i64 m) : (execOp a.eval o).run Tryd.prog w = .ok (.value (.slice (if c = m.toNat then A else A.map (·.add (m.toNat * 14))) (n - m.toNat) (c - m.toNat))) w := by
  unfold execOp
  simp only [ho, hx, hl, Option.map, slice_low w A n c m h0 hm, Sem.run_bind, Sem.run_pure, Result.andThen_ok]
theorem exec_high (x hi : Operand) (ho : o.op = .slice 47 x none (some hi) none) (A : Option Addr) (n c m : Nat) (hm : m ≤ c) (hx : a.eval x = .slice A n c) (hl : a.eval hi = .int .i64 (m : Int)) : (execOp a.eval o).run Tryd.prog w = .ok (.value (.slice A m c)) w := by
  unfold execOp
  simp only [ho, hx, hl, Option.map, slice_high w A n c m hm, Sem.run_bind, Sem.run_pure, Result.andThen_ok]
end
section
variable {F G : Nat → Prop} {p : Nat} {s : Sh}
set_option maxHeartbeats 8000000 in
set_option maxRecDepth 100000 in
theorem Behind_calls (i most : Int) (w : World) (h : IsS F G w p s) (hGb : ∀ k, w.heap.size ≤ k → ¬ G k) (hw : Wf s) :
    Calls Tryd.prog 19 #[.pointer (some ⟨p, 0, none⟩), .int .i64 i, .int .i64 most] w fun e w' => ∃ v, e = .returned (.tuple #[v, .bool (behindP s i most).2]) ∧ Below w.heap.size w w' ∧ RV G w' v (behindP s i most).1 := by
  obtain ⟨out, hout⟩ : ∃ out, behindP s i most = out := ⟨_, rfl⟩
  rw [hout]
  unfold behindP at hout
  obtain ⟨b1, b2, b3, b4, rv, hp0, hf0, hn0, hs1, hs2, hrv⟩ := h.ex
  obtain ⟨Ar, cr, rfl, hcr, hCr⟩ := hrv.slice
  have c4 : w.cell? ⟨p, 4, none⟩ = some (.int .i64 s.T.idx) := (blk_cell hp0 4).trans rfl
  have HD := Aside0.mk (dead_calls h)
  have HE := Aside0.mk (end_calls h hw)
  have HOut := Aside0.mk hout
  have HP := Aside0.mk hp0
  have HC := Aside0.mk hCr
  have HCR := Aside0.mk hcr
  have HGB := Aside0.mk hGb
  have hti := hw.tab.idx
  have hlen := hw.len
  have hEe : endI s = s.T.idx + s.R.length := rfl
  obtain ⟨E, hE⟩ : ∃ E, endI s = E := ⟨_, rfl⟩
  rw [hE] at HE HOut hEe
  obtain ⟨lo, hlo⟩ : ∃ lo, s.T.idx = lo := ⟨_, rfl⟩
  rw [hlo] at c4 HOut hEe hti
  have HLO := Aside0.mk hlo
  have HL := Aside0.mk (And.intro hti (And.intro hlen hEe))
  clear hout h hw hp0 hf0 hn0 hs1 hs2 hrv hE hlo hcr hCr hGb hti hlen hEe
  by_cases c1 : i < lo
  · have d1 : decide (i < lo) = true := decide_eq_true c1
    have ho := HOut.out
    rw [if_pos (.inl c1)] at ho
    subst ho
    clear c1
    go_enter Tryd.func19, Tryd.ntmps19
    go_wp2_with (go_at_call 51; refine HD.out.mono ?_; rintro e w' ⟨rfl, rfl⟩)
    go_ret2
    exact ⟨_, rfl, Below.refl _ _, Kd.V_nil _ _ _ _ _⟩
  have d1 : decide (i < lo) = false := decide_eq_false c1
  by_cases c2 : E < i
  · have d2 : decide (i > E) = true := decide_eq_true c2
    have d2' : decide (E < i) = true := decide_eq_true c2
    have ho := HOut.out
    rw [if_pos (.inr c2)] at ho
    subst ho
    clear c1 c2
    go_enter Tryd.func19, Tryd.ntmps19
    go_wp2_with (first
      | (go_at_call 51; refine HD.out.mono ?_; rintro e w' ⟨rfl, rfl⟩)
      | (go_at_call 52; refine HE.out.mono ?_; rintro e w1 ⟨rfl, ⟨nd, rfl⟩⟩))
    go_ret2
    exact ⟨_, rfl, pw_below_drewN (Below.refl _ _) nd, Kd.V_nil _ _ _ _ _⟩
  have d2 : decide (i > E) = false := decide_eq_false c2
  have d2' : decide (E < i) = false := decide_eq_false c2
  have ho := HOut.out
  rw [if_neg (fun h => h.elim c1 c2)] at ho
  subst ho
  have hwr : IntKind.i64.wrap (i - lo) = i - lo := IntWalk.i64_in _ (by have := HL.out; omega)
  have HM : Aside0 (0 ≤ i - lo ∧ i - lo ≤ (s.R.length : Int)) := ⟨by have := HL.out; omega⟩
  clear c1 c2 HOut
  go_enter Tryd.func19, Tryd.ntmps19
  go_upto_region 3 with (first
    | (go_at_call 51; refine HD.out.mono ?_; rintro e w' ⟨rfl, rfl⟩)
    | (go_at_call 52; refine HE.out.mono ?_; rintro e w1 ⟨rfl, ⟨nd, rfl⟩⟩))
  refine start_ (n := 12) (S := fun w' => w'.heap[p]? = some (.cells (shCells b1 b2 b3 b4 s.T.idx s.T.epoch (.slice Ar s.R.length cr) s.C) 86 (0, 0))) (ds := []) #[false, false, false, false, false, false, false, false, false, false, false, false] (by kernel_rfl) rfl rfl (blk_drewN HP.out nd) (fun hHeld => ?_)
  refine pure_ (i := 0) (N := some 25) (v := ?_) (a' := ?_) #[true, false, false, false, false, false, false, false, false, false, false, false] rfl rfl (by kernel_rfl) (fun _ _ _ h => h) (Or.inl ⟨by rfl, ?_⟩) ?_ ?_
  rotate_left
  · intro w'
    go_simp
    with_reducible rfl
  rotate_left
  · simp only [Act.put, List.setIfInBounds_toArray, List.set_cons_zero, List.set_cons_succ, i64_w, i32_w]
    rfl
  refine pure_ (i := 1) (N := some 26) (v := ?_) (a' := ?_) #[true, true, false, false, false, false, false, false, false, false, false, false] rfl rfl (by kernel_rfl) (fun _ _ _ h => h) (Or.inl ⟨by rfl, ?_⟩) ?_ ?_
  rotate_left
  · intro w'
    go_simp
    with_reducible rfl
  rotate_left
  · simp only [Act.put, List.setIfInBounds_toArray, List.set_cons_zero, List.set_cons_succ, i64_w, i32_w]
    rfl
  refine pure_ (i := 2) (N := some 27) (v := ?_) (a' := ?_) #[true, true, true, false, false, false, false, false, false, false, false, false] rfl rfl (by kernel_rfl) (fun _ _ _ h => h) (Or.inl ⟨by rfl, ?_⟩) ?_ ?_
  rotate_left
  · intro w'
    go_simp
    with_reducible rfl
  rotate_left
  · simp only [Act.put, List.setIfInBounds_toArray, List.set_cons_zero, List.set_cons_succ, i64_w, i32_w]
    rfl
  refine pure_ (i := 4) (N := some 29) (v := ?_) (a' := ?_) #[true, true, true, false, true, false, false, false, false, false, false, false] rfl rfl (by kernel_rfl) (fun _ _ _ h => h) (Or.inl ⟨by rfl, ?_⟩) ?_ ?_
  rotate_left
  · intro w'
    go_simp
    with_reducible rfl
  rotate_left
  · simp only [Act.put, List.setIfInBounds_toArray, List.set_cons_zero, List.set_cons_succ, i64_w, i32_w]
    rfl
  refine pure_ (i := 5) (N := some 30) (v := ?_) (a' := ?_) #[true, true, true, false, true, true, false, false, false, false, false, false] rfl rfl (by kernel_rfl) (fun _ _ _ h => h) (Or.inl ⟨by rfl, ?_⟩) ?_ ?_
  rotate_left
  · intro w'
    go_simp
    with_reducible rfl
  rotate_left
  · simp only [Act.put, List.setIfInBounds_toArray, List.set_cons_zero, List.set_cons_succ, i64_w, i32_w]
    rfl
  refine pure_ (i := 6) (N := some 31) (v := ?_) (a' := ?_) #[true, true, true, false, true, true, true, false, false, false, false, false] rfl rfl (by kernel_rfl) (fun _ _ _ h => h) (Or.inl ⟨by rfl, ?_⟩) ?_ ?_
  rotate_left
  · intro w'
    go_simp
    with_reducible rfl
  rotate_left
  · simp only [Act.put, List.setIfInBounds_toArray, List.set_cons_zero, List.set_cons_succ, i64_w, i32_w]
    rfl
  refine pure_ (i := 7) (N := some 32) (v := ?_) (a' := ?_) #[true, true, true, false, true, true, true, true, false, false, false, false] rfl rfl (by kernel_rfl) (fun _ _ _ h => h) (Or.inl ⟨by rfl, ?_⟩) ?_ ?_
  rotate_left
  · intro w'
    go_simp
    with_reducible rfl
  rotate_left
  · simp only [Act.put, List.setIfInBounds_toArray, List.set_cons_zero, List.set_cons_succ, i64_w, i32_w]
    rfl
  refine take_ (i := 3) (N := some 28) (v := ?_) (a' := ?_) #[true, true, true, true, true, true, true, true, false, false, false, false] rfl rfl (by kernel_rfl) (fun _ _ _ h => h) (Or.inl ⟨by rfl, ?_⟩) hHeld ?_ ?_
  rotate_left
  · intro w' s0
    have d6_ := (blk_cell s0 6).trans (show _ = some (.slice Ar s.R.length cr) from rfl)
    go_simp
    with_reducible rfl
  rotate_left
  · simp only [Act.put, List.setIfInBounds_toArray, List.set_cons_zero, List.set_cons_succ, i64_w, i32_w]
    rfl
  refine take_ (i := 8) (N := some 33) (v := ?_) (a' := ?_) #[true, true, true, true, true, true, true, true, true, false, false, false] rfl rfl (by kernel_rfl) (fun _ _ _ h => h) (Or.inl ⟨by rfl, ?_⟩) hHeld ?_ ?_
  rotate_left
  · intro w' s0
    have d4_ := (blk_cell s0 4).trans (show _ = some (Value.int .i64 s.T.idx) from rfl)
    rw [HLO.out] at d4_
    go_simp
    with_reducible rfl
  rotate_left
  · simp only [Act.put, List.setIfInBounds_toArray, List.set_cons_zero, List.set_cons_succ, i64_w, i32_w]
    rfl
  refine pure_ (i := 9) (N := some 34) (v := ?_) (a' := ?_) #[true, true, true, true, true, true, true, true, true, true, false, false] rfl rfl (by kernel_rfl) (fun _ _ _ h => h) (Or.inl ⟨by rfl, ?_⟩) ?_ ?_
  rotate_left
  · intro w'
    go_simp
    with_reducible rfl
  rotate_left
  · simp only [Act.put, List.setIfInBounds_toArray, List.set_cons_zero, List.set_cons_succ, i64_w, i32_w]
    rfl
  refine pure_ (i := 10) (N := some 35) (v := ?_) (a' := ?_) #[true, true, true, true, true, true, true, true, true, true, true, false] rfl rfl (by kernel_rfl) (fun _ _ _ h => h) (Or.inl ⟨by rfl, ?_⟩) ?_ ?_
  rotate_left
  · intro w'
    refine Eq.trans (exec_low (.tmp 28) (.tmp 34) rfl Ar s.R.length cr (i - lo) HM.out.1 HM.out.2 rfl rfl) ?_
    with_reducible rfl
  rotate_left
  · simp only [Act.put, List.setIfInBounds_toArray, List.set_cons_zero, List.set_cons_succ, i64_w, i32_w]
    rfl
  refine pure_ (i := 11) (N := some 8) (v := ?_) (a' := ?_) #[true, true, true, true, true, true, true, true, true, true, true, true] rfl rfl (by kernel_rfl) (fun _ _ _ h => h) (Or.inl ⟨by rfl, ?_⟩) ?_ ?_
  rotate_left
  · intro w'
    go_simp
    with_reducible rfl
  rotate_left
  · simp only [Act.put, List.setIfInBounds_toArray, List.set_cons_zero, List.set_cons_succ, i64_w, i32_w]
    rfl
  refine done_ (by kernel_rfl) ?_
  go_upto_region 4 with (fail)
  obtain ⟨m, hm⟩ : ∃ m, (i - lo).toNat = m := ⟨_, rfl⟩
  have hmle : m ≤ s.R.length := by have := HM.out; omega
  have hCd := Kd.C_drop HC.out hmle HCR.out
  rw [List.length_drop] at hCd
  obtain ⟨A', hA'⟩ : ∃ A', (if cr = m then Ar else Ar.map (fun x => x.add (m * 14))) = A' := ⟨_, rfl⟩
  have hCd' : kR.C w A' (s.R.length - m) (s.R.drop m) := hA' ▸ hCd
  obtain ⟨w5, hw5⟩ : ∃ w5, (w.drewN nd).drew = w5 := ⟨_, rfl⟩
  have hb5 : Below w.heap.size w w5 := hw5 ▸ below_drew1 (pw_below_drewN (Below.refl _ _) nd)
  have HB5 := Aside0.mk hb5
  rw [hm, hA', hw5]
  obtain ⟨q, hq⟩ : ∃ q, s.R.length - m = q := ⟨_, rfl⟩
  rw [hq] at hCd' ⊢
  have HCd := Aside0.mk (Kd.C_below hCd' hb5)
  have HQ := Aside0.mk hq
  obtain ⟨cc, hcc⟩ : ∃ cc, cr - m = cc := ⟨_, rfl⟩
  have HCC : Aside0 (q ≤ cc) := ⟨by have := HCR.out; omega⟩
  rw [hcc]
  have HMM := Aside0.mk hm
  clear hmle hCd hCd' hA' hw5 hb5 hq hcc hHeld hm
  have e1 : max most 0 = (most.toNat : Int) := by omega
  have e2 : min (most.toNat : Int) (q : Int) = ((min most.toNat q : Nat) : Int) := by omega
  obtain ⟨mn, hmn⟩ : ∃ mn, most.toNat = mn := ⟨_, rfl⟩
  rw [hmn] at e1 e2
  obtain ⟨hh, hhh⟩ : ∃ hh, min mn q = hh := ⟨_, rfl⟩
  rw [hhh] at e2
  have hql : (s.R.drop m).length = q := by rw [List.length_drop]; exact HQ.out
  have hC2 : kR.C w5 A' (s.R.drop m).length (s.R.drop m) := by rw [hql]; exact HCd.out
  have htk : ((s.R.drop m).take mn).length = hh := by rw [List.length_take, hql]; exact hhh
  have hC3 : kR.C w5 A' ((s.R.drop m).take hh).length ((s.R.drop m).take hh) := Kd.C_take hC2 (by rw [hql]; omega)
  have htt : (s.R.drop m).take hh = (s.R.drop m).take mn := by
    rcases Nat.le_total mn q with hle | hle
    · rw [show hh = mn by omega]
    · rw [List.take_of_length_le (by omega), List.take_of_length_le (by omega)]
  rw [htt] at hC3
  have HCL := Aside0.mk (Clone_calls (G := G) A' cc ((s.R.drop m).take mn) w5 hC3 (by have := HL.out.2.1; rw [htk]; have := HQ.out; omega) (fun k hk => HGB.out k (Nat.le_trans HB5.out.size hk)))
  rw [htk] at HCL
  have HHC : Aside0 (hh ≤ cc) := ⟨by have := HCC.out; omega⟩
  have HMN := Aside0.mk hmn
  clear hmn hhh hql hC2 htk hC3 htt
  go_wp2_with (first
    | ((with_reducible refine gate_dst (N := 42) rfl ?_); go_must (refine Kd.event_run rfl (exec_high (.tmp 36) (.tmp 41) rfl A' q cc hh HHC.out rfl rfl) ?_))
    | (go_at_call 54; refine HCL.out.mono ?_; rintro e w6 ⟨v, rfl, hb6, hrv6⟩))
  go_ret2
  rw [HMM.out, HMN.out]
  exact ⟨v, rfl, below_then HB5.out HB5.out.size hb6, hrv6⟩
end
end Go.Proofs.YtgmaedngkhidlaaDoor.Sf
-- SgG
namespace Go.Proofs.YtgmaedngkhidlaaDoor.Sf
open Go Go.RowKit Go.ChangeMaps Go.MapKept Go.Proofs.YtgmaedngkhidlaaDoorW.PrintWords Go.Proofs.YtgmaedngkhidlaaDoorW.PrintLast Go.Proofs.YtgmaedngkhidlaaDoorW.PrintMore
open Go.Maps (Keyed)
set_option linter.unusedVariables false
set_option linter.unusedSimpArgs false
def encQ (k : Dq) : List Value := [.int .i64 k.op, .int .i64 k.epoch, .int .i64 k.i, .bool k.near] ++ (encK k.key ++ ([.string k.val, .int .i64 k.client, .int .i64 k.seq] ++ encR k.x))
theorem encQ_len {k : Dq} (h : k.key.length = 8) (hx : k.x.key.length = 8) : (encQ k).length = 29 := by
  unfold encQ
  rw [List.length_append, List.length_append, List.length_append, encK_len h, encR_len hx]
  rfl
theorem encQ_one (k : Dq) : ∀ v ∈ encQ k, v.oneCell' = true := by
  intro v hv
  rcases List.mem_append.1 hv with hv | hv
  · simp only [List.mem_cons, List.mem_nil_iff, or_false] at hv
    rcases hv with rfl | rfl | rfl | rfl <;> rfl
  · rcases List.mem_append.1 hv with hv | hv
    · exact encK_one _ v hv
    · rcases List.mem_append.1 hv with hv | hv
      · simp only [List.mem_cons, List.mem_nil_iff, or_false] at hv
        rcases hv with rfl | rfl | rfl <;> rfl
      · exact encR_one _ v hv
structure DoAt (f : Nat → Option Value) (k : Dq) : Prop where
  op : f 0 = some (.int .i64 k.op)
  epoch : f 1 = some (.int .i64 k.epoch)
  i : f 2 = some (.int .i64 k.i)
  near : f 3 = some (.bool k.near)
  key : ∀ j v, (encK k.key)[j]? = some v → f (4 + j) = some v
  val : f 12 = some (.string k.val)
  client : f 13 = some (.int .i64 k.client)
  seq : f 14 = some (.int .i64 k.seq)
  x : ∀ j v, (encR k.x)[j]? = some v → f (15 + j) = some v
theorem doAt {f : Nat → Option Value} {k : Dq} (hk : k.key.length = 8) (h : ∀ j v, (encQ k)[j]? = some v → f j = some v) : DoAt f k := by
  have hl := encK_len hk
  have h4 : ∀ j v, (encK k.key ++ ([.string k.val, .int .i64 k.client, .int .i64 k.seq] ++ encR k.x))[j]? = some v → f (4 + j) = some v := fun j v hv => h (4 + j) v (by
    unfold encQ
    rw [List.getElem?_append_right (by simp), show 4 + j - ([Value.int .i64 k.op, .int .i64 k.epoch, .int .i64 k.i, .bool k.near] : List Value).length = j by simp]
    exact hv)
  have h12 : ∀ j v, (([.string k.val, .int .i64 k.client, .int .i64 k.seq] : List Value) ++ encR k.x)[j]? = some v → f (12 + j) = some v := fun j v hv => by
    have := h4 (8 + j) v (by rw [List.getElem?_append_right (by omega), hl, Nat.add_sub_cancel_left]; exact hv)
    rw [← Nat.add_assoc] at this
    exact this
  have h0 : ∀ j v, ([Value.int .i64 k.op, .int .i64 k.epoch, .int .i64 k.i, .bool k.near] : List Value)[j]? = some v → f j = some v := fun j v hv => h j v (by
    unfold encQ
    rw [List.getElem?_append_left (List.getElem?_eq_some_iff.1 hv).1]
    exact hv)
  refine ⟨h0 0 _ rfl, h0 1 _ rfl, h0 2 _ rfl, h0 3 _ rfl, fun j v hv => h4 j v (by rw [List.getElem?_append_left (List.getElem?_eq_some_iff.1 hv).1]; exact hv), h12 0 _ rfl, h12 1 _ rfl, h12 2 _ rfl, fun j v hv => ?_⟩
  have := h12 (3 + j) v (by rw [List.getElem?_append_right (by simp)]; simpa using hv)
  rw [← Nat.add_assoc] at this
  exact this
theorem u64_wrap (I : Int) : IntKind.u64.wrap I = I % 18446744073709551616 := by
  unfold IntKind.wrap
  simp [IntKind.signed, IntKind.bits]
theorem u64_mod (I m : Int) (hm : 0 < m) : (IntKind.u64.wrap I).tmod m = I % 18446744073709551616 % m := by
  rw [u64_wrap, Int.tmod_eq_emod_of_nonneg (by omega)]
set_option maxHeartbeats 4000000 in
set_option maxRecDepth 100000 in
theorem place_calls (k : Dq) (commit last : Int) (w : World) (hk : k.key.length = 8) (hx : k.x.key.length = 8) (hc : 0 ≤ commit ∧ commit ≤ 1099511627900) (hl : 0 ≤ last ∧ last ≤ 1099511627900) (hi : (Lit.int .i64 k.i).wf = true) :
    Calls Tryd.prog 61 #[.agg (encQ k).toArray, .int .i64 commit, .int .i64 last] w fun e w' => e = .returned (.int .i64 (placeP k (bits .and .i64 k.op 7) commit last)) ∧ Below w.heap.size w w' := by
  obtain ⟨cs, hcs⟩ : ∃ cs, encQ k = cs := ⟨_, rfl⟩
  obtain ⟨O, hO⟩ : ∃ O, bits .and .i64 k.op 7 = O := ⟨_, rfl⟩
  obtain ⟨out, hout⟩ : ∃ out, placeP k (bits .and .i64 k.op 7) commit last = out := ⟨_, rfl⟩
  rw [hcs, hout]
  rw [hO] at hout
  unfold placeP at hout
  obtain ⟨g, hg⟩ : ∃ g, w.heap.size = g := ⟨_, rfl⟩
  obtain ⟨w1, hw1⟩ : ∃ w1, w.alloc (.cells cs.toArray 34) = w1 := ⟨_, rfl⟩
  have hb1 : Below w.heap.size w w1 := hw1 ▸ below_alloc (Below.refl _ _) _
  have hR1 : w1.heap[g]? = some (.cells cs.toArray 34) := hg ▸ hw1 ▸ at_alloc w _
  have D := doAt (f := fun j => w1.cell? ⟨g, j, none⟩) hk (hcs ▸ blk_get hR1)
  have r0 : w1.cell? ⟨g, 0, none⟩ = some (.int .i64 k.op) := D.op
  have r2 : w1.cell? ⟨g, 2, none⟩ = some (.int .i64 k.i) := D.i
  have r3 : w1.cell? ⟨g, 3, none⟩ = some (.bool k.near) := D.near
  have HW := Aside0.mk hw1
  have HB := Aside0.mk hb1
  have HOut := Aside0.mk hout
  have HG := Aside0.mk hg
  obtain ⟨I, hI⟩ : ∃ I, k.i = I := ⟨_, rfl⟩
  rw [hI] at r2 HOut hi
  have hir : -9223372036854775808 ≤ I ∧ I ≤ 9223372036854775807 := by
    have := hi
    simp only [Lit.wf, decide_eq_true_eq] at this
    simpa [IntKind.min, IntKind.max, IntKind.signed, IntKind.bits] using this
  have HI := Aside0.mk (And.intro hir (And.intro hc hl))
  clear hw1 hb1 hR1 D hout hi hir hc hl hI hk hx
  cases hn : k.near with
  | false =>
    rw [hn] at r3
    have ho := HOut.out
    rw [if_pos hn] at ho
    subst ho
    clear hn hO
    go_enter Tryd.func61, Tryd.ntmps61
    go_upto_region 1 with (fail)
    rw [HW.out]
    go_wp2_with (fail)
    go_ret
    exact ⟨rfl, HB.out⟩
  | true =>
    rw [hn] at r3
    have ho := HOut.out
    rw [if_neg (by rw [hn]; decide)] at ho
    have HO2 := Aside0.mk ho
    clear hn ho HOut
    by_cases c4 : O = 4
    · have ho := HO2.out
      rw [if_pos c4] at ho
      subst ho
      have d4 : (O == 4) = true := by simpa using c4
      clear HO2
      go_enter Tryd.func61, Tryd.ntmps61
      go_upto_region 1 with (fail)
      rw [HW.out]
      go_wp2_with (fail)
      go_ret
      have h1 := HI.out
      have h2 := u64_mod I 4 (by decide)
      refine ⟨?_, HB.out⟩
      show Ending.returned (Value.int IntKind.i64 (wrap64 (last - wrap64 ((IntKind.u64.wrap I).tmod 4)))) = _
      rw [h2]
      congr 2
      unfold wrap64
      omega
    · have ho := HO2.out
      rw [if_neg c4] at ho
      subst ho
      have d4 : (O == 4) = false := by simpa using c4
      clear HO2
      go_enter Tryd.func61, Tryd.ntmps61
      go_upto_region 1 with (fail)
      rw [HW.out]
      go_wp2_with (fail)
      go_ret
      have h1 := HI.out
      have h2 := u64_mod I 5 (by decide)
      refine ⟨?_, HB.out⟩
      show Ending.returned (Value.int IntKind.i64 (wrap64 (wrap64 (commit + wrap64 ((IntKind.u64.wrap I).tmod 5)) - 1))) = _
      rw [h2]
      congr 2
      unfold wrap64
      omega
end Go.Proofs.YtgmaedngkhidlaaDoor.Sf
-- SgH
namespace Go.Proofs.YtgmaedngkhidlaaDoor.Sf
open Go Go.RowKit Go.ChangeMaps Go.MapKept Go.Proofs.YtgmaedngkhidlaaDoorW.PrintWords Go.Proofs.YtgmaedngkhidlaaDoorW.PrintLast Go.Proofs.YtgmaedngkhidlaaDoorW.PrintMore
open Go.Maps (Keyed)
set_option linter.unusedVariables false
set_option linter.unusedSimpArgs false
theorem C_atC {A : Option Addr} {n : Nat} {R : List Cel} {w : World} (h : kC.C w A n R) (i : Nat) (hi : i < R.length) : ∃ ad, A = some ad ∧ (R[i]).key.length = 8 ∧ ∀ j v, (encC R[i])[j]? = some v → w.cell? ((ad.add (i * 10)).add j) = some v := by
  obtain ⟨hn, _, hc0⟩ := h
  obtain ⟨ad, rfl, hc1⟩ := hc0 (by omega)
  obtain ⟨cs, hl, ⟨he, hl2⟩, hcc⟩ := hc1 i R[i] (List.getElem?_eq_getElem hi)
  refine ⟨ad, rfl, ?_, fun j v hj => ?_⟩
  · have hq : (encC R[i]).length = 10 := by rw [← he]; exact hl2
    unfold encC encK at hq
    simp at hq
    omega
  · rw [add_add]
    exact hcc j v (by rw [he]; exact hj)
structure IsB (e : Ending) : Prop where mk :: (out : ∃ b, e = .returned (.bool b))
abbrev vT (idx epoch : Int) (A : Option Addr) (n c : Nat) (B : Option Addr) (m d : Nat) : Value := .agg #[.int .i64 idx, .int .i64 epoch, .slice A n c, .slice B m d]
set_option maxHeartbeats 4000000 in
set_option maxRecDepth 100000 in
theorem small_calls (idx epoch : Int) (R : List Cel) (A B : Option Addr) (c m d : Nat) (w : World) (hC : kC.C w A R.length R) :
    Calls Tryd.prog 12 #[vT idx epoch A R.length c B m d] w fun e w' => IsB e ∧ Below w.heap.size w w' := by
  obtain ⟨g, hg⟩ : ∃ g, w.heap.size = g := ⟨_, rfl⟩
  obtain ⟨w1, hw1⟩ : ∃ w1, w.alloc (.cells #[.int .i64 idx, .int .i64 epoch, .slice A R.length c, .slice B m d] 25) = w1 := ⟨_, rfl⟩
  have hb1 : Below w.heap.size w w1 := hw1 ▸ below_alloc (Below.refl _ _) _
  have hR1 : w1.heap[g]? = some (.cells #[.int .i64 idx, .int .i64 epoch, .slice A R.length c, .slice B m d] 25) := hg ▸ hw1 ▸ at_alloc w _
  have r2 : w1.cell? ⟨g, 2, none⟩ = some (.slice A R.length c) := (blk_cell hR1 2).trans rfl
  have r3 : w1.cell? ⟨g, 3, none⟩ = some (.slice B m d) := (blk_cell hR1 3).trans rfl
  have HC := Aside0.mk (Kd.C_below hC hb1)
  have HW := Aside0.mk hw1
  have HB := Aside0.mk hb1
  have HMAX := Aside0.mk hC.2.1
  clear hw1 hb1 hR1 hC
  obtain ⟨n, hn⟩ : ∃ n, R.length = n := ⟨_, rfl⟩
  rw [hn] at r2 HW HMAX ⊢
  have HN := Aside0.mk hn
  clear hn
  go_enter Tryd.func12, Tryd.ntmps12
  go_upto_region 1 with (fail)
  rw [HW.out]
  go_wp2_with (fail)
  go_loop [3, 4] (fun v3 v4 => ∃ (x : Int) (j : Nat), v3 = .int .i64 x ∧ v4 = .int .i64 (j : Int) ∧ j ≤ n) (fun v3 v4 => n - (intOf v4).toNat)
  case atStart => exact ⟨0, 0, rfl, rfl, Nat.zero_le _⟩
  case round =>
    obtain ⟨x, j, rfl, rfl, hj⟩ := hrel
    by_cases c1 : j < n
    · have d1 : decide ((j : Int) < (n : Int)) = true := decide_eq_true (by omega)
      by_cases c2 : j < 100
      · have d2 : decide ((j : Int) < 100) = true := decide_eq_true (by omega)
        by_cases c3 : x ≤ 8192
        · have d3 : decide (x ≤ 8192) = true := decide_eq_true c3
          obtain ⟨ad, hA, hk, hcell⟩ := C_atC HC.out j (by have := HN.out; omega)
          subst hA
          have CC := celAt (f := fun i => w1.cell? ((ad.add (j * 10)).add i)) hk hcell
          have rv : w1.cell? ⟨(ad.add (j * 10)).block, (ad.add (j * 10)).off + 9, none⟩ = some (.string (R[j]'(by have := HN.out; omega)).val) := by
            have := CC.val
            rw [add_pos ad (j * 10) 9 (by decide)] at this
            exact this
          obtain ⟨vv, hvv⟩ : ∃ vv, (R[j]'(by have := HN.out; omega)).val = vv := ⟨_, rfl⟩
          rw [hvv] at rv
          clear CC hcell hk hvv
          go_wp2_with (fail)
          exact ⟨⟨_, j + 1, rfl, by push_cast; rfl, by omega⟩, by simp [intOf]; omega⟩
        · have d3 : decide (x ≤ 8192) = false := decide_eq_false c3
          by_cases c5 : n < 100
          · have d5 : decide ((n : Int) < 100) = true := decide_eq_true (by omega)
            by_cases c6 : m < 100
            · have d6 : decide ((m : Int) < 100) = true := decide_eq_true (by omega)
              go_wp2_with (fail)
              go_ret
              exact ⟨⟨⟨_, rfl⟩⟩, by first | exact HB.out | exact hg ▸ HB.out⟩
            · have d6 : decide ((m : Int) < 100) = false := decide_eq_false (by omega)
              go_wp2_with (fail)
              go_ret
              exact ⟨⟨⟨_, rfl⟩⟩, by first | exact HB.out | exact hg ▸ HB.out⟩
          · have d5 : decide ((n : Int) < 100) = false := decide_eq_false (by omega)
            go_wp2_with (fail)
            go_ret
            exact ⟨⟨⟨_, rfl⟩⟩, by first | exact HB.out | exact hg ▸ HB.out⟩
      · have d2 : decide ((j : Int) < 100) = false := decide_eq_false (by omega)
        have d5 : decide ((n : Int) < 100) = false := decide_eq_false (by omega)
        go_wp2_with (fail)
        go_ret
        exact ⟨⟨⟨_, rfl⟩⟩, by first | exact HB.out | exact hg ▸ HB.out⟩
    · have d1 : decide ((j : Int) < (n : Int)) = false := decide_eq_false (by omega)
      by_cases c5 : n < 100
      · have d5 : decide ((n : Int) < 100) = true := decide_eq_true (by omega)
        by_cases c6 : m < 100
        · have d6 : decide ((m : Int) < 100) = true := decide_eq_true (by omega)
          go_wp2_with (fail)
          go_ret
          exact ⟨⟨⟨_, rfl⟩⟩, by first | exact HB.out | exact hg ▸ HB.out⟩
        · have d6 : decide ((m : Int) < 100) = false := decide_eq_false (by omega)
          go_wp2_with (fail)
          go_ret
          exact ⟨⟨⟨_, rfl⟩⟩, by first | exact HB.out | exact hg ▸ HB.out⟩
      · have d5 : decide ((n : Int) < 100) = false := decide_eq_false (by omega)
        go_wp2_with (fail)
        go_ret
        exact ⟨⟨⟨_, rfl⟩⟩, by first | exact HB.out | exact hg ▸ HB.out⟩
set_option maxHeartbeats 4000000 in
set_option maxRecDepth 100000 in
theorem key_calls (v : ByteArray) (w : World) : Calls Tryd.prog 49 #[.string v] w fun e w' => e = .returned (vK (keyP v).1) ∧ Below w.heap.size w w' := by
  obtain ⟨ks, hks⟩ : ∃ ks, encK (keyP v).1 = ks := ⟨_, rfl⟩
  change Calls _ _ _ _ fun e w' => e = .returned (.agg (encK (keyP v).1).toArray) ∧ Below w.heap.size w w'
  have hl := encK_len (keyP_L v).len
  have h1 := encK_one (keyP v).1
  rw [hks] at hl h1 ⊢
  obtain ⟨w1, hw1⟩ : ∃ w1, w.alloc (.cells #[.int .u8 0, .int .u8 0, .int .u8 0, .int .u8 0, .int .u8 0, .int .u8 0, .int .u8 0, .int .u8 0] 28) = w1 := ⟨_, rfl⟩
  have hb1 : Below w.heap.size w w1 := hw1 ▸ below_alloc (Below.refl _ _) _
  have hz1 := hw1 ▸ at_alloc w (.cells #[.int .u8 0, .int .u8 0, .int .u8 0, .int .u8 0, .int .u8 0, .int .u8 0, .int .u8 0, .int .u8 0] 28)
  have HK := Aside0.mk (show Calls Tryd.prog 70 #[.string v] w1 fun e w' => e = .returned (.tuple #[.agg ks.toArray, .int .i64 (keyP v).2]) ∧ Below w1.heap.size w1 w' from hks ▸ Key_calls v w1)
  obtain ⟨E, hE⟩ : ∃ E, (keyP v).2 = E := ⟨_, rfl⟩
  rw [hE] at HK
  have HL := Aside0.mk hl
  have H1 := Aside0.mk h1
  have HW := Aside0.mk hw1
  have HB := Aside0.mk hb1
  have HZ := Aside0.mk hz1
  clear hl h1 hw1 hb1 hz1 hks hE
  go_enter Tryd.func49, Tryd.ntmps49
  go_upto_region 1 with (fail)
  rw [HW.out]
  go_upto_region 2 with (first
    | (go_at_call 70; refine HK.out.mono ?_; rintro e w2 ⟨rfl, hb2⟩)
    | ((with_reducible refine gate_ (.store 28 (.tmp 3) (.tmp 8)) rfl ?_); go_must (refine wpList_fill (P := Tryd.prog) rfl 28 (.tmp 3) (.tmp 8) rfl ks _ rfl rfl (by rw [HL.out]; exact aggK) (by rw [HL.out]; rfl) H1.out ?_)))
  obtain ⟨w3, hw3⟩ : ∃ w3, w2.alloc (.cells ks.toArray 28) = w3 := ⟨_, rfl⟩
  have hb3 : Below w2.heap.size w2 w3 := hw3 ▸ below_alloc (Below.refl _ _) _
  have HX := Aside0.mk (show w3.heap[w2.heap.size]? = some (.cells ks.toArray 28) from hw3 ▸ at_alloc w2 _)
  have hb4 := below_then HB.out HB.out.size (below_then hb2 hb2.size hb3)
  have HB4 := Aside0.mk hb4
  have HZ3 := Aside0.mk (blk_below (blk_below HZ.out hb2) hb3)
  rw [hw3]
  clear hw3 hb2 hb3 hb4
  go_wp2_with (first
    | ((with_reducible refine gate_dst (N := 10) rfl ?_); go_must (refine wpList_seg (P := Tryd.prog) rfl 28 (.tmp 3) rfl w2.heap.size 0 rfl ks (by rw [HL.out]; exact aggK) (SegAt.blk (t := 28) (fr := (0, 0)) HX.out) ?_))
    | ((with_reducible refine gate_ (.store 28 (.tmp 2) (.tmp 10)) rfl ?_); go_must (refine wpList_row (P := Tryd.prog) rfl 28 (.tmp 2) (.tmp 10) rfl w.heap.size _ 28 HZ3.out ks rfl rfl (by rw [HL.out]; exact aggK) (by rw [HL.out]; rfl) H1.out ?_); intro w5 r1 r2 r3))
  refine bodyPost_ret (results_c rfl _ _ w.heap.size 28 ks.toArray (0, 0) _ (by rfl) r3 Tryd.underlying28 rfl (by rw [List.size_toArray, HL.out]; kernel_rfl)) rfl ?_
  exact ⟨rfl, pw_below_grown HB4.out _ HB4.out.size r1 (fun k e => by injection e with e; omega)⟩
end Go.Proofs.YtgmaedngkhidlaaDoor.Sf
-- SgK
namespace Go.Proofs.YtgmaedngkhidlaaDoor.Sf
open Go Go.RowKit Go.ChangeMaps Go.MapKept Go.Proofs.YtgmaedngkhidlaaDoorW.PrintWords Go.Proofs.YtgmaedngkhidlaaDoorW.PrintLast Go.Proofs.YtgmaedngkhidlaaDoorW.PrintMore
open Go.Maps (Keyed)
set_option linter.unusedVariables false
set_option linter.unusedSimpArgs false
theorem C_atR {A : Option Addr} {n : Nat} {R : List Rc} {w : World} (h : kR.C w A n R) (i : Nat) (hi : i < R.length) : ∃ ad, A = some ad ∧ (R[i]).key.length = 8 ∧ ∀ j v, (encR R[i])[j]? = some v → w.cell? ((ad.add (i * 14)).add j) = some v := by
  obtain ⟨hn, _, hc0⟩ := h
  obtain ⟨ad, rfl, hc1⟩ := hc0 (by omega)
  obtain ⟨cs, hl, ⟨he, hl2⟩, hcc⟩ := hc1 i R[i] (List.getElem?_eq_getElem hi)
  refine ⟨ad, rfl, ?_, fun j v hj => ?_⟩
  · have hq : (encR R[i]).length = 14 := by rw [← he]; exact hl2
    unfold encR encK at hq
    simp at hq
    omega
  · rw [add_add]
    exact hcc j v (by rw [he]; exact hj)
section
variable {F G : Nat → Prop} {p : Nat} {s : Sh}
end
end Go.Proofs.YtgmaedngkhidlaaDoor.Sf
-- SgL
namespace Go.Proofs.YtgmaedngkhidlaaDoor.Sf
open Go Go.RowKit Go.ChangeMaps Go.MapKept Go.Proofs.YtgmaedngkhidlaaDoorW.PrintWords Go.Proofs.YtgmaedngkhidlaaDoorW.PrintLast Go.Proofs.YtgmaedngkhidlaaDoorW.PrintMore
open Go.Maps (Keyed)
set_option linter.unusedVariables false
set_option linter.unusedSimpArgs false
theorem wpList_part {P : Program} {ops : Array Oper} {rest : List Oper} {o : Oper} {a : Act} {w : World} {Q : Exit → Act → World → Prop} (hgd : o.guard = none) (ty : TypeId) (x y : Operand) (ho : o.op = .store ty x y)
    (g f : Nat) (zs : Array Value) (t : TypeId) (hb : w.heap[g]? = some (.cells zs t (0, 0))) (cs : List Value) (hx : a.eval x = .pointer (some ⟨g, f, none⟩)) (hy : a.eval y = .agg cs.toArray) (hA : AggT P ty cs.length) (hz : f + cs.length ≤ zs.size) (h1 : ∀ v ∈ cs, v.oneCell' = true) (ns : Array Value) (hn : (zs.toList.take f ++ cs ++ zs.toList.drop (f + cs.length)).toArray = ns)
    (h : ∀ w', w.grownBy w' (some g) → w'.heap.size = w.heap.size → w'.heap[g]? = some (.cells ns t (0, 0)) → wpList P ops Q rest (a.put o.dst undef) w') : wpList P ops Q (o :: rest) a w := by
  have hst := run_storeCells_at P g f t cs 0 zs w hb (by omega) h1
  rw [Nat.add_zero, hn] at hst
  refine wpList_plain hgd fun K hK => ?_
  have hrun : (Instr.storeAt ty (.pointer (some ⟨g, f, none⟩)) (.agg cs.toArray)).run P w = .ok () (w.setRow g ns) := by
    have hi := hA.size
    cases hq : P.info? ty with
    | none => simp [hq] at hi
    | some i =>
      have hs : cs.length = i.size := by simp [hq] at hi; omega
      simp [Instr.storeAt, Instr.sureAddr, storeVar, sizeOf, typeInfo, hq, Value.cells, ← hs, hst]
  unfold Oper.wp execOp
  simp only [ho, hx, hy, Sem.run_bind, Sem.run_pure, Result.andThen_ok, hrun]
  exact hK _ _ (h _ ⟨rfl, rfl, rfl, by simp, fun i _ hi => setRow_other w g i _ (fun e => hi (by rw [e]))⟩ (by simp) (setRow_heap w g zs ns t (0, 0) hb))
structure Grow (A B : Nat → Prop) (n : Nat) : Prop where
  all : ∀ k, A k → B k
  new : ∀ k, k < n → B k → A k
theorem Grow.refl (A : Nat → Prop) (n : Nat) : Grow A A n := ⟨fun _ h => h, fun _ _ h => h⟩
structure Acts (F G : Nat → Prop) (p : Nat) (w w' : World) (s' : Sh) (F' G' : Nat → Prop) : Prop where
  is : IsS F' G' w' p s'
  ws : Ws F w w'
  f : Grow F F' w.heap.size
  g : Grow G G' w.heap.size
  lt : ∀ k, G' k → k < w'.heap.size
theorem Acts.same {F G : Nat → Prop} {p : Nat} {w w' : World} {s' : Sh} (hI : IsS F G w' p s') (hW : Ws F w w') (hG : ∀ k, G k → k < w.heap.size) : Acts F G p w w' s' F G :=
  ⟨hI, hW, Grow.refl _ _, Grow.refl _ _, fun k hk => Nat.lt_of_lt_of_le (hG k hk) hW.size⟩
theorem Acts.start {F G F1 G1 : Nat → Prop} {p : Nat} {w0 w w1 : World} {s1 : Sh} (hb : Below w0.heap.size w0 w) (h : Acts F G p w w1 s1 F1 G1) : Acts F G p w0 w1 s1 F1 G1 :=
  ⟨h.is, (Ws.of_below hb).trans h.ws, ⟨h.f.all, fun k hk => h.f.new k (Nat.lt_of_lt_of_le hk hb.size)⟩, ⟨h.g.all, fun k hk => h.g.new k (Nat.lt_of_lt_of_le hk hb.size)⟩, h.lt⟩
structure Ky (s : Sh) : Prop where
  cell : ∀ c ∈ s.T.cells, KeyL c.key
  rc : ∀ x ∈ s.R, KeyL x.key
theorem wf_four {c : Int} (h : 0 ≤ c ∧ c < 4) : (Lit.int .i64 c).wf = true := by
  have : c = 0 ∨ c = 1 ∨ c = 2 ∨ c = 3 := by omega
  rcases this with rfl | rfl | rfl | rfl <;> rfl
theorem TabOk.wf {t : Tab} (h : TabOk t) : ∀ d ∈ t.done, (Lit.int .i64 d.client).wf = true := fun d hd => by
  have := reqB_iff.1 (h.don d hd).1
  exact wf_four ⟨this.1, this.2.1⟩
theorem May.wf {t : Tab} {x : Rc} (h : May t x) : (Lit.int .i64 x.client).wf = true := by
  have := reqB_iff.1 h.req
  exact wf_four ⟨this.1, this.2.1⟩
theorem RV.c {G : Nat → Prop} {w : World} {A : Option Addr} {n c : Nat} {R : List Rc} (h : RV G w (.slice A n c) R) : kR.C w A R.length R := by
  obtain ⟨A', c', e, _, hC⟩ := h.slice
  injection e with e1 e2 e3
  subst e1
  exact hC
section
variable {F G : Nat → Prop} {p : Nat} {s : Sh}
set_option maxHeartbeats 8000000 in
set_option maxRecDepth 100000 in
theorem Cut_calls (i : Int) (w : World) (h : IsS F G w p s) (hGb : ∀ k, G k → k < w.heap.size) (hw : Wf s) (hy : Ky s) :
    Calls Tryd.prog 41 #[.pointer (some ⟨p, 0, none⟩), .int .i64 i] w fun e w' => e = .returned (.int .i64 (cutP s i).2) ∧ ∃ F' G', Acts F G p w w' (cutP s i).1 F' G' := by
  obtain ⟨out, hout⟩ : ∃ out, cutP s i = out := ⟨_, rfl⟩
  rw [hout]
  unfold cutP at hout
  obtain ⟨b1, b2, b3, b4, rv, hp0, hf0, hn0, hs1, hs2, hrv⟩ := h.ex
  obtain ⟨Ar, cr, rfl, hcr, hCr⟩ := hrv.slice
  obtain ⟨n, hn⟩ : ∃ n, s.R.length = n := ⟨_, rfl⟩
  have hlen := hw.len
  have hti := hw.tab.idx
  have hlo := hw.lo
  have hEe : endI s = s.T.idx + s.R.length := rfl
  have HD := Aside0.mk (dead_calls h)
  have HE := Aside0.mk (end_calls h hw)
  obtain ⟨E, hE⟩ : ∃ E, endI s = E := ⟨_, rfl⟩
  obtain ⟨lo, hl⟩ : ∃ lo, s.T.idx = lo := ⟨_, rfl⟩
  obtain ⟨ep, hep⟩ : ∃ ep, s.T.epoch = ep := ⟨_, rfl⟩
  obtain ⟨cm, hcm⟩ : ∃ cm, s.C = cm := ⟨_, rfl⟩
  rw [hE] at HE
  rw [hE, hl, hn] at hEe
  rw [hn] at hlen hcr hCr
  rw [hl] at hti
  rw [hl, hcm] at hlo
  rw [hl, hep, hcm, hn] at hp0
  rw [hE, hcm, hl] at hout
  have c7 : w.cell? ⟨p, 7, none⟩ = some (.int .i64 cm) := (blk_cell hp0 7).trans rfl
  have HL := Aside0.mk (And.intro hl (And.intro hep hcm))
  have HX := Aside0.mk (And.intro hlen (And.intro hti (And.intro hEe hlo)))
  have HP := Aside0.mk hp0
  have HF := Aside0.mk hf0
  have HND := Aside0.mk hn0
  have HS1 := Aside0.mk hs1
  have HS2 := Aside0.mk hs2
  have HRV := Aside0.mk hrv
  have HCR := Aside0.mk hcr
  have HC := Aside0.mk hCr
  have HN := Aside0.mk hn
  have HH := Aside0.mk h
  have HGB := Aside0.mk hGb
  have HWf := Aside0.mk hw
  have HKy := Aside0.mk hy
  have HOut := Aside0.mk hout
  clear hp0 hf0 hn0 hs1 hs2 hrv hcr hCr h hGb hw hy hout hlen hti hlo hEe hE hl hep hcm hn
  by_cases c1 : i < cm
  · have d1 : decide (i < cm) = true := decide_eq_true c1
    have ho := HOut.out
    rw [if_pos (.inl c1)] at ho
    subst ho
    clear c1
    go_enter Tryd.func41, Tryd.ntmps41
    go_wp2_with (go_at_call 51; refine HD.out.mono ?_; rintro e w' ⟨rfl, rfl⟩)
    go_ret
    exact ⟨rfl, F, G, Acts.same HH.out (Ws.refl _ _) HGB.out⟩
  have d1 : decide (i < cm) = false := decide_eq_false c1
  by_cases c2 : E < i
  · have d2 : decide (i > E) = true := decide_eq_true c2
    have d2' : decide (E < i) = true := decide_eq_true c2
    have ho := HOut.out
    rw [if_pos (.inr c2)] at ho
    subst ho
    clear c1 c2
    go_enter Tryd.func41, Tryd.ntmps41
    go_wp2_with (first
      | (go_at_call 51; refine HD.out.mono ?_; rintro e w' ⟨rfl, rfl⟩)
      | (go_at_call 52; refine HE.out.mono ?_; rintro e w1 ⟨rfl, ⟨nd, rfl⟩⟩))
    go_ret
    exact ⟨rfl, F, G, Acts.same (HH.out.drew nd) (Ws.of_below (pw_below_drewN (Below.refl _ _) nd)) HGB.out⟩
  have d2 : decide (i > E) = false := decide_eq_false c2
  have d2' : decide (E < i) = false := decide_eq_false c2
  have ho := HOut.out
  rw [if_neg (fun h => h.elim c1 c2)] at ho
  obtain ⟨m, hm⟩ : ∃ m, (i - lo).toNat = m := ⟨_, rfl⟩
  have hwr : IntKind.i64.wrap (i - lo) = (m : Int) := by have := HX.out; rw [IntWalk.i64_in _ (by omega)]; omega
  have HM : Aside0 (m ≤ n ∧ m ≤ 24) := ⟨by have := HX.out; omega⟩
  rw [hm] at ho
  obtain ⟨R', hR'⟩ : ∃ R', s.R.take m = R' := ⟨_, rfl⟩
  rw [hR'] at ho
  have hRl : R'.length = m := by rw [← hR', List.length_take]; have := HM.out; have := HN.out; omega
  have HRL := Aside0.mk hRl
  have HR' := Aside0.mk hR'
  have hCt : kR.C w Ar m R' := by
    have hq := Kd.C_take (m := m) (HN.out ▸ HC.out : kR.C w Ar s.R.length s.R) (by have := HM.out; have := HN.out; omega)
    rw [hR', hRl] at hq
    exact hq
  have HCt := Aside0.mk hCt
  have HCL : Aside0 (∀ w' : World, kR.C w' Ar m R' → w.heap.size ≤ w'.heap.size → Calls Tryd.prog 54 #[.slice Ar m cr] w' fun e w'' => ∃ v, e = .returned v ∧ Below w'.heap.size w' w'' ∧ RV G w'' v R') := ⟨fun w' hc hs => by
    have := Clone_calls (G := G) Ar cr R' w' (hRl.symm ▸ hc) (by rw [hRl]; exact HM.out.2) (fun k hk hg => by have := HGB.out k hg; omega)
    rw [hRl] at this
    exact this⟩
  have HMC : Aside0 (m ≤ cr) := ⟨by have := HM.out; have := HCR.out; omega⟩
  subst ho
  clear c1 c2 HOut hR' hRl hCt hm
  go_enter Tryd.func41, Tryd.ntmps41
  go_upto_region 5 with (first
    | (go_at_call 51; refine HD.out.mono ?_; rintro e w' ⟨rfl, rfl⟩)
    | (go_at_call 52; refine HE.out.mono ?_; rintro e w1 ⟨rfl, ⟨nd, rfl⟩⟩))
  have HB5 := Aside0.mk (pw_below_drewN (Below.refl w.heap.size w) nd)
  have HP5 := Aside0.mk (blk_drewN HP.out nd)
  have HC5 := Aside0.mk (Kd.C_below HCt.out HB5.out)
  refine start_ (n := 16) (S := fun w' => w'.heap[p]? = some (.cells (shCells b1 b2 b3 b4 lo ep (.slice Ar n cr) cm) 86 (0, 0)) ∧ kR.C w' Ar m R' ∧ Below w.heap.size w w') (ds := [15]) #[false, false, false, false, false, false, false, false, false, false, false, false, false, false, false, false] (by kernel_rfl) rfl rfl ⟨blk_below HP5.out (below_drew1 (Below.refl _ _)), Kd.C_below HC5.out (below_drew1 (Below.refl _ _)), below_drew1 HB5.out⟩ (fun hHeld => ?_)
  refine pure_ (i := 0) (N := some 23) (v := ?_) (a' := ?_) #[true, false, false, false, false, false, false, false, false, false, false, false, false, false, false, false] rfl rfl (by kernel_rfl) (fun _ _ _ h => h) (Or.inl ⟨by rfl, ?_⟩) ?_ ?_
  rotate_left
  · intro w'
    go_simp
    with_reducible rfl
  rotate_left
  · simp only [Act.put, List.setIfInBounds_toArray, List.set_cons_zero, List.set_cons_succ, i64_w, i32_w]
    rfl
  refine pure_ (i := 1) (N := some 24) (v := ?_) (a' := ?_) #[true, true, false, false, false, false, false, false, false, false, false, false, false, false, false, false] rfl rfl (by kernel_rfl) (fun _ _ _ h => h) (Or.inl ⟨by rfl, ?_⟩) ?_ ?_
  rotate_left
  · intro w'
    go_simp
    with_reducible rfl
  rotate_left
  · simp only [Act.put, List.setIfInBounds_toArray, List.set_cons_zero, List.set_cons_succ, i64_w, i32_w]
    rfl
  refine pure_ (i := 2) (N := some 25) (v := ?_) (a' := ?_) #[true, true, true, false, false, false, false, false, false, false, false, false, false, false, false, false] rfl rfl (by kernel_rfl) (fun _ _ _ h => h) (Or.inl ⟨by rfl, ?_⟩) ?_ ?_
  rotate_left
  · intro w'
    go_simp
    with_reducible rfl
  rotate_left
  · simp only [Act.put, List.setIfInBounds_toArray, List.set_cons_zero, List.set_cons_succ, i64_w, i32_w]
    rfl
  refine pure_ (i := 3) (N := some 26) (v := ?_) (a' := ?_) #[true, true, true, true, false, false, false, false, false, false, false, false, false, false, false, false] rfl rfl (by kernel_rfl) (fun _ _ _ h => h) (Or.inl ⟨by rfl, ?_⟩) ?_ ?_
  rotate_left
  · intro w'
    go_simp
    with_reducible rfl
  rotate_left
  · simp only [Act.put, List.setIfInBounds_toArray, List.set_cons_zero, List.set_cons_succ, i64_w, i32_w]
    rfl
  refine pure_ (i := 5) (N := some 28) (v := ?_) (a' := ?_) #[true, true, true, true, false, true, false, false, false, false, false, false, false, false, false, false] rfl rfl (by kernel_rfl) (fun _ _ _ h => h) (Or.inl ⟨by rfl, ?_⟩) ?_ ?_
  rotate_left
  · intro w'
    go_simp
    with_reducible rfl
  rotate_left
  · simp only [Act.put, List.setIfInBounds_toArray, List.set_cons_zero, List.set_cons_succ, i64_w, i32_w]
    rfl
  refine pure_ (i := 6) (N := some 29) (v := ?_) (a' := ?_) #[true, true, true, true, false, true, true, false, false, false, false, false, false, false, false, false] rfl rfl (by kernel_rfl) (fun _ _ _ h => h) (Or.inl ⟨by rfl, ?_⟩) ?_ ?_
  rotate_left
  · intro w'
    go_simp
    with_reducible rfl
  rotate_left
  · simp only [Act.put, List.setIfInBounds_toArray, List.set_cons_zero, List.set_cons_succ, i64_w, i32_w]
    rfl
  refine pure_ (i := 7) (N := some 30) (v := ?_) (a' := ?_) #[true, true, true, true, false, true, true, true, false, false, false, false, false, false, false, false] rfl rfl (by kernel_rfl) (fun _ _ _ h => h) (Or.inl ⟨by rfl, ?_⟩) ?_ ?_
  rotate_left
  · intro w'
    go_simp
    with_reducible rfl
  rotate_left
  · simp only [Act.put, List.setIfInBounds_toArray, List.set_cons_zero, List.set_cons_succ, i64_w, i32_w]
    rfl
  refine pure_ (i := 8) (N := some 31) (v := ?_) (a' := ?_) #[true, true, true, true, false, true, true, true, true, false, false, false, false, false, false, false] rfl rfl (by kernel_rfl) (fun _ _ _ h => h) (Or.inl ⟨by rfl, ?_⟩) ?_ ?_
  rotate_left
  · intro w'
    go_simp
    with_reducible rfl
  rotate_left
  · simp only [Act.put, List.setIfInBounds_toArray, List.set_cons_zero, List.set_cons_succ, i64_w, i32_w]
    rfl
  refine take_ (i := 4) (N := some 27) (v := ?_) (a' := ?_) #[true, true, true, true, true, true, true, true, true, false, false, false, false, false, false, false] rfl rfl (by kernel_rfl) (fun _ _ _ h => h) (Or.inl ⟨by rfl, ?_⟩) hHeld ?_ ?_
  rotate_left
  · rintro w' ⟨s0, s1, s2⟩
    have d6_ := (blk_cell s0 6).trans (show _ = some (.slice Ar n cr) from rfl)
    go_simp
    with_reducible rfl
  rotate_left
  · simp only [Act.put, List.setIfInBounds_toArray, List.set_cons_zero, List.set_cons_succ, i64_w, i32_w]
    rfl
  refine take_ (i := 9) (N := some 32) (v := ?_) (a' := ?_) #[true, true, true, true, true, true, true, true, true, true, false, false, false, false, false, false] rfl rfl (by kernel_rfl) (fun _ _ _ h => h) (Or.inl ⟨by rfl, ?_⟩) hHeld ?_ ?_
  rotate_left
  · rintro w' ⟨s0, s1, s2⟩
    have d4_ := (blk_cell s0 4).trans (show _ = some (.int .i64 lo) from rfl)
    go_simp
    with_reducible rfl
  rotate_left
  · simp only [Act.put, List.setIfInBounds_toArray, List.set_cons_zero, List.set_cons_succ, i64_w, i32_w]
    rfl
  refine pure_ (i := 10) (N := some 33) (v := ?_) (a' := ?_) #[true, true, true, true, true, true, true, true, true, true, true, false, false, false, false, false] rfl rfl (by kernel_rfl) (fun _ _ _ h => h) (Or.inl ⟨by rfl, ?_⟩) ?_ ?_
  rotate_left
  · intro w'
    go_simp
    with_reducible rfl
  rotate_left
  · simp only [Act.put, List.setIfInBounds_toArray, List.set_cons_zero, List.set_cons_succ, i64_w, i32_w]
    rfl
  refine pure_ (i := 11) (N := some 34) (v := ?_) (a' := ?_) #[true, true, true, true, true, true, true, true, true, true, true, true, false, false, false, false] rfl rfl (by kernel_rfl) (fun _ _ _ h => h) (Or.inl ⟨by rfl, ?_⟩) ?_ ?_
  rotate_left
  · intro w'
    refine Eq.trans (exec_high (.tmp 27) (.tmp 33) rfl Ar n cr m HMC.out rfl rfl) ?_
    with_reducible rfl
  rotate_left
  · simp only [Act.put, List.setIfInBounds_toArray, List.set_cons_zero, List.set_cons_succ, i64_w, i32_w]
    rfl
  refine one_ (i := 12) (N := some 35) #[true, true, true, true, true, true, true, true, true, true, true, true, true, false, false, false] rfl rfl (by kernel_rfl) (by decide) (fun K hK => ?_)
  refine goes_ Tryd.func54 (by kernel_rfl) rfl #[.slice Ar m cr] (by rfl) rfl rfl (by first | rfl | (simp; done) | (simp only [List.map_toArray, List.map_cons, List.map_nil]; rfl)) ?_
  with_reducible refine (HCL.out _ hHeld.2.1 hHeld.2.2.size).mono ?_
  rintro e w7 ⟨v7, rfl, hb7, hrv7⟩
  refine ⟨_, rfl, ?_⟩
  obtain ⟨A7, c7, e7, _, _⟩ := hrv7.slice
  rw [HRL.out] at e7
  subst e7
  have HRV7 := Aside0.mk hrv7
  clear hrv7
  refine hK.out _ _ ⟨blk_below hHeld.1 hb7, Kd.C_below hHeld.2.1 hb7, below_step hHeld.2.2 hb7⟩ (fun hHeld => ?_)
  clear hK K
  refine norm_ (a' := ?_) ?_ ?_
  rotate_left
  · show Act.put _ (some 35) _ = _
    simp only [Act.put, List.setIfInBounds_toArray, List.set_cons_zero, List.set_cons_succ, i64_w, i32_w]
    rfl
  refine pure_ (i := 13) (N := some 36) (v := ?_) (a' := ?_) #[true, true, true, true, true, true, true, true, true, true, true, true, true, true, false, false] rfl rfl (by kernel_rfl) (fun _ _ _ h => h) (Or.inl ⟨by rfl, ?_⟩) ?_ ?_
  rotate_left
  · intro w'
    go_simp
    with_reducible rfl
  rotate_left
  · simp only [Act.put, List.setIfInBounds_toArray, List.set_cons_zero, List.set_cons_succ, i64_w, i32_w]
    rfl
  refine pure_ (i := 14) (N := some 37) (v := ?_) (a' := ?_) #[true, true, true, true, true, true, true, true, true, true, true, true, true, true, true, false] rfl rfl (by kernel_rfl) (fun _ _ _ h => h) (Or.inl ⟨by rfl, ?_⟩) ?_ ?_
  rotate_left
  · intro w'
    go_simp
    with_reducible rfl
  rotate_left
  · simp only [Act.put, List.setIfInBounds_toArray, List.set_cons_zero, List.set_cons_succ, i64_w, i32_w]
    rfl
  refine last_ (i := 15) (N := none) #[true, true, true, true, true, true, true, true, true, true, true, true, true, true, true, true] rfl rfl (by kernel_rfl) (by decide) (fun K hK => ?_)
  have hcS := (blk_cell hHeld.1 6).trans (show _ = some (Value.slice Ar n cr) from rfl)
  have hfS := blk_frozen hHeld.1 6
  refine skip_ (w1 := ?_) (by rfl) rfl ?_ ?_
  rotate_left
  · go_simp
    rfl
  refine hK.out _ _ ?_
  clear hK K
  refine done_ (by kernel_rfl) ?_
  obtain ⟨k0, k1, k2⟩ := hHeld
  obtain ⟨w8, hw8⟩ : ∃ w8, w7.setCell ⟨p, 6, none⟩ (.slice A7 m c7) = w8 := ⟨_, rfl⟩
  have hP8 : w8.heap[p]? = some (.cells (shCells b1 b2 b3 b4 lo ep (.slice A7 m c7) cm) 86 (0, 0)) := hw8 ▸ blk_set k0 6 _
  have hws8 : Ws F w w8 := (Ws.of_below k2).trans (hw8 ▸ Ws.of_set w7 HH.out.fp 6 _)
  have hS18 : St2 w8 b1 b2 s.T := (HS1.out.below k2).same (hw8 ▸ Below.heap_setCell w7 ⟨p, 6, none⟩ _ b1 (Ne.symm (IsMap.ne_cells HS1.out.c HP.out))) (hw8 ▸ Below.heap_setCell w7 ⟨p, 6, none⟩ _ b2 (Ne.symm (IsMap.ne_cells HS1.out.d HP.out)))
  have HRV8 : Aside0 (RV G w8 (.slice A7 m c7) R') := ⟨HRV7.out.ws (hw8 ▸ Ws.of_set (P := F) w7 HH.out.fp 6 _) HH.out.fg⟩
  have HCOP := Aside0.mk (copied_calls b1 b2 s.T w8 hS18 HKy.out.cell HWf.out.tab.wf)
  have HP8 := Aside0.mk hP8
  have HW8 := Aside0.mk hws8
  have HS18 := Aside0.mk hS18
  have r0 : w8.cell? ⟨p, 0, none⟩ = some (.map (some b1)) := (blk_cell hP8 0).trans rfl
  have r1 : w8.cell? ⟨p, 1, none⟩ = some (.map (some b2)) := (blk_cell hP8 1).trans rfl
  rw [hw8]
  clear hw8 hP8 hws8 hS18 k0 k1 k2 hb7 HB5 HP5 HC5 HRV7 HCL HCt
  go_upto_region 7 with (first
    | ((with_reducible refine gate_dst (N := 42) rfl ?_); go_must (refine wpList_seg (P := Tryd.prog) rfl 84 (.tmp 41) rfl p 0 rfl [.map (some b1), .map (some b2)] aggS (seg_two r0 r1) ?_))
    | (go_at_call 56; refine HCOP.out.mono ?_; rintro e w9 ⟨c1, c2, rfl, H9⟩; have H9 := Aside0.mk H9)
    | ((with_reducible refine gate_ (.store 84 (.tmp 45) (.tmp 43)) rfl ?_); go_must (refine wpList_part (P := Tryd.prog) rfl 84 (.tmp 45) (.tmp 43) rfl p 2 _ 86 (blk_below HP8.out H9.out.1) [.map (some c1), .map (some c2)] rfl rfl aggS (by simp) (by simp [Value.oneCell']) (shCells b1 b2 c1 c2 lo ep (.slice A7 m c7) cm) rfl ?_); intro w10 q1 q2 q3))
  obtain ⟨hb9, hge, hcc, hst9⟩ := H9.out
  have hp9 := HH.out.lt p HH.out.fp
  have hsz := HW8.out.size
  have hlt9 := hst9.lt
  have hst10 : St2 w10 c1 c2 s.T := hst9.same (q1.block c1 hlt9.1 (fun e => by injection e with e; omega)) (q1.block c2 hlt9.2 (fun e => by injection e with e; omega))
  have hws10 : Ws F w w10 := (HW8.out.trans (Ws.of_below hb9)).trans (Ws.of_grown q1 HH.out.fp)
  have hS110 : St2 w10 b1 b2 s.T := (HS18.out.below hb9).same (q1.block b1 (HS18.out.below hb9).lt.1 (fun e => by injection e with e; exact IsMap.ne_cells HS18.out.c HP8.out e.symm)) (q1.block b2 (HS18.out.below hb9).lt.2 (fun e => by injection e with e; exact IsMap.ne_cells HS18.out.d HP8.out e.symm))
  obtain ⟨F', hF'⟩ : ∃ F' : Nat → Prop, ∀ k, F' k ↔ (F k ∨ k = c1 ∨ k = c2) := ⟨fun k => F k ∨ k = c1 ∨ k = c2, fun _ => Iff.rfl⟩
  obtain ⟨G', hG'⟩ : ∃ G' : Nat → Prop, ∀ k, G' k ↔ (G k ∨ k = c1 ∨ k = c2) := ⟨fun k => G k ∨ k = c1 ∨ k = c2, fun _ => Iff.rfl⟩
  have hrv10 : RV G' w10 (.slice A7 m c7) R' := ((HRV8.out.grow (G' := G') (fun b hb hg => ((hG' b).1 hg).elim id (fun e => by omega))).below hb9).ws (Ws.of_grown (P := F) q1 HH.out.fp) (fun k hk => (hG' k).2 (.inl (HH.out.fg k hk)))
  have HRV10 := Aside0.mk hrv10
  have HST10 := Aside0.mk hst10
  have HWS10 := Aside0.mk hws10
  have HS110 := Aside0.mk hS110
  have HP10 := Aside0.mk q3
  have HFG := Aside0.mk (And.intro hF' hG')
  have HO : Aside0 (w.heap.size ≤ c1 ∧ c1 < c2 ∧ c2 < w10.heap.size ∧ p < w.heap.size ∧ w.heap.size ≤ w10.heap.size) := ⟨by have := hst10.lt; have := hws10.size; omega⟩
  have r6 : w10.cell? ⟨p, 6, none⟩ = some (.slice A7 m c7) := (blk_cell q3 6).trans rfl
  clear q1 q2 q3 hb9 hge hcc hst9 hp9 hsz hlt9 hst10 hws10 hS110 hF' hG' hrv10 r0 r1 HRV8 HP8 HW8 HS18 HCOP H9
  go_upto_region 8 with (fail)
  go_loopw [51] (fun v51 wr => ∃ j : Nat, j ≤ m ∧ v51 = .int .i64 (j : Int) ∧ Aside0 (St2 wr c1 c2 (upT s.T (R'.take j))) ∧ Aside0 (Ws (fun b => b = c1 ∨ b = c2) w10 wr)) (fun v51 _ => m - (intOf v51).toNat)
  case atStart => exact ⟨0, Nat.zero_le _, rfl, ⟨by rw [List.take_zero]; exact HST10.out⟩, ⟨Ws.refl _ _⟩⟩
  case round =>
    obtain ⟨j, hj, rfl, HSt, HWs⟩ := hrel
    clear r6
    have HPr : Aside0 (wr.heap[p]? = some (.cells (shCells b1 b2 c1 c2 lo ep (.slice A7 m c7) cm) 86 (0, 0))) := ⟨(HWs.out.block p (blk_lt HP10.out) (by have := HO.out; omega)).trans HP10.out⟩
    have HRVr : Aside0 (RV G' wr (.slice A7 m c7) R') := ⟨HRV10.out.ws HWs.out (fun k hk => (HFG.out.2 k).2 (.inr hk))⟩
    by_cases e1 : j < m
    · have e1' : decide ((j : Int) < (m : Int)) = true := decide_eq_true (by omega)
      have hjl : j < R'.length := by have := HRL.out; omega
      have HWJ : Aside0 (wrap64 ((j : Int) + 1) = (j : Int) + 1) := ⟨by have := HM.out; unfold wrap64; omega⟩
      obtain ⟨ad, hA, hkl, hcell⟩ := C_atR HRVr.out.c j hjl
      subst hA
      obtain ⟨x, hx⟩ : ∃ x, R'[j] = x := ⟨_, rfl⟩
      rw [hx] at hkl hcell
      have hxs' : s.R[j]'(by have := HM.out; have := HN.out; omega) = x := by
        have hr := HR'.out
        subst hr
        rw [List.getElem_take] at hx
        exact hx
      have htk : upT s.T (R'.take (j + 1)) = putT (upT s.T (R'.take j)) x := by rw [List.take_succ_eq_append_getElem hjl, upT_snoc, hx]
      have hRt : R'.take j = s.R.take j := by rw [← HR'.out, List.take_take, Nat.min_eq_left (by omega)]
      have hat := (HWf.out.at j (by have := HM.out; have := HN.out; omega)).1
      rw [← hRt] at hat
      have hmay := HWf.out.chain j (by have := HM.out; have := HN.out; omega)
      rw [hxs'] at hmay
      have hmem : x ∈ s.R := hxs' ▸ List.getElem_mem _
      obtain ⟨tj, htj⟩ : ∃ tj, upT s.T (R'.take j) = tj := ⟨_, rfl⟩
      rw [htj] at htk hat HSt
      obtain ⟨xs, hxs⟩ : ∃ xs, encR x = xs := ⟨_, rfl⟩
      have HPUT : Aside0 (∀ w' : World, St2 w' c1 c2 tj → Calls Tryd.prog 55 #[vS c1 c2, .agg xs.toArray] w' fun e w'' => e = .returned (.tuple #[]) ∧ Ws (fun b => b = c1 ∨ b = c2) w' w'' ∧ St2 w'' c1 c2 (putT tj x)) := ⟨fun w' h' => hxs ▸ put_calls c1 c2 tj x w' h' (by have := HO.out; omega) hat.up hat.upd (HKy.out.rc x hmem) hmay.wf⟩
      have HTK := Aside0.mk htk
      have HCell : Aside0 (∀ q v, xs[q]? = some v → wr.cell? ((ad.add (j * 14)).add q) = some v) := ⟨hxs ▸ hcell⟩
      have HLX : Aside0 (xs.length = 14) := ⟨hxs ▸ encR_len hkl⟩
      have HX1 : Aside0 (∀ v ∈ xs, v.oneCell' = true) := ⟨hxs ▸ encR_one x⟩
      clear hx hkl hcell hxs' htk hRt hat hmay hmem htj hxs
      go_upto_region 10 with (first
        | ((with_reducible refine gate_dst (N := 54) rfl ?_); go_must (refine wpList_at (P := Tryd.prog) rfl 32 (.tmp 53) rfl (ad.add (j * 14)) rfl xs (by rw [HLX.out]; exact aggR) HCell.out ?_))
        | ((with_reducible refine gate_ (.store 32 (.tmp 6) (.tmp 54)) rfl ?_); go_must (refine wpList_fill (P := Tryd.prog) rfl 32 (.tmp 6) (.tmp 54) rfl xs _ rfl rfl (by rw [HLX.out]; exact aggR) (by rw [HLX.out]; rfl) HX1.out ?_)))
      obtain ⟨w11, hw11⟩ : ∃ w11, wr.alloc (.cells xs.toArray 32) = w11 := ⟨_, rfl⟩
      have hb11 : Below wr.heap.size wr w11 := hw11 ▸ below_alloc (Below.refl _ _) _
      have HA11 := Aside0.mk (show w11.heap[wr.heap.size]? = some (.cells xs.toArray 32) from hw11 ▸ at_alloc wr _)
      have HP11 := Aside0.mk (blk_below HPr.out hb11)
      have HS11 := Aside0.mk (HSt.out.below hb11)
      have HW11 := Aside0.mk (HWs.out.trans (Ws.of_below hb11))
      rw [hw11]
      obtain ⟨b, hbb⟩ : ∃ b, wr.heap.size = b := ⟨_, rfl⟩
      rw [hbb] at HA11 ⊢
      clear hw11 hb11 hbb
      refine start_ (n := 6) (S := fun w' => w'.heap[p]? = some (.cells (shCells b1 b2 c1 c2 lo ep (.slice (some ad) m c7) cm) 86 (0, 0)) ∧ w'.heap[b]? = some (.cells xs.toArray 32 (0, 0)) ∧ St2 w' c1 c2 tj) (ds := [5]) #[false, false, false, false, false, false] (by kernel_rfl) rfl rfl ⟨blk_below HP11.out (below_drew1 (Below.refl _ _)), blk_below HA11.out (below_drew1 (Below.refl _ _)), HS11.out.below (below_drew1 (Below.refl _ _))⟩ (fun hHeld => ?_)
      refine pure_ (i := 0) (N := some 55) (v := ?_) (a' := ?_) #[true, false, false, false, false, false] rfl rfl (by kernel_rfl) (fun _ _ _ h => h) (Or.inl ⟨by rfl, ?_⟩) ?_ ?_
      rotate_left
      · intro w'
        go_simp
        with_reducible rfl
      rotate_left
      · simp only [Act.put, List.setIfInBounds_toArray, List.set_cons_zero, List.set_cons_succ, i64_w, i32_w]
        rfl
      refine pure_ (i := 1) (N := some 56) (v := ?_) (a' := ?_) #[true, true, false, false, false, false] rfl rfl (by kernel_rfl) (fun _ _ _ h => h) (Or.inl ⟨by rfl, ?_⟩) ?_ ?_
      rotate_left
      · intro w'
        go_simp
        with_reducible rfl
      rotate_left
      · simp only [Act.put, List.setIfInBounds_toArray, List.set_cons_zero, List.set_cons_succ, i64_w, i32_w]
        rfl
      refine pure_ (i := 2) (N := some 57) (v := ?_) (a' := ?_) #[true, true, true, false, false, false] rfl rfl (by kernel_rfl) (fun _ _ _ h => h) (Or.inl ⟨by rfl, ?_⟩) ?_ ?_
      rotate_left
      · intro w'
        go_simp
        with_reducible rfl
      rotate_left
      · simp only [Act.put, List.setIfInBounds_toArray, List.set_cons_zero, List.set_cons_succ, i64_w, i32_w]
        rfl
      refine take_ (i := 3) (N := some 58) (v := ?_) (a' := ?_) #[true, true, true, true, false, false] rfl rfl (by kernel_rfl) (fun _ _ _ h => h) (Or.inl ⟨by rfl, ?_⟩) hHeld ?_ ?_
      rotate_left
      · rintro w' ⟨s0, s1, s2⟩
        refine Eq.trans (exec_seg (P := Tryd.prog) 84 (.tmp 57) rfl p 2 rfl [.map (some c1), .map (some c2)] aggS (seg_two (show w'.cell? ⟨p, 2, none⟩ = some (.map (some c1)) from (blk_cell s0 2).trans rfl) (show w'.cell? ⟨p, 3, none⟩ = some (.map (some c2)) from (blk_cell s0 3).trans rfl))) ?_
        with_reducible rfl
      rotate_left
      · simp only [Act.put, List.setIfInBounds_toArray, List.set_cons_zero, List.set_cons_succ, i64_w, i32_w]
        rfl
      refine take_ (i := 4) (N := some 59) (v := ?_) (a' := ?_) #[true, true, true, true, true, false] rfl rfl (by kernel_rfl) (fun _ _ _ h => h) (Or.inl ⟨by rfl, ?_⟩) hHeld ?_ ?_
      rotate_left
      · rintro w' ⟨s0, s1, s2⟩
        refine Eq.trans (exec_seg (P := Tryd.prog) 32 (.tmp 6) rfl b 0 rfl xs (by rw [HLX.out]; exact aggR) (SegAt.blk (t := 32) (fr := (0, 0)) s1)) ?_
        with_reducible rfl
      rotate_left
      · simp only [Act.put, List.setIfInBounds_toArray, List.set_cons_zero, List.set_cons_succ, i64_w, i32_w]
        rfl
      refine last_ (i := 5) (N := some 60) #[true, true, true, true, true, true] rfl rfl (by kernel_rfl) (by decide) (fun K hK => ?_)
      refine goes_ Tryd.func55 (by kernel_rfl) rfl #[vS c1 c2, .agg xs.toArray] (by rfl) rfl rfl (by first | rfl | (simp; done) | (simp only [List.map_toArray, List.map_cons, List.map_nil]; rfl)) ?_
      with_reducible refine (HPUT.out _ hHeld.2.2).mono ?_
      rintro e w12 ⟨rfl, hws12, hst12⟩
      refine ⟨_, rfl, ?_⟩
      refine hK.out _ _ ?_
      clear hK K
      refine norm_ (a' := ?_) ?_ ?_
      rotate_left
      · show Act.put _ (some 60) _ = _
        simp only [Act.put, List.setIfInBounds_toArray, List.set_cons_zero, List.set_cons_succ, i64_w, i32_w]
        rfl
      refine done_ (by kernel_rfl) ?_
      go_wp2_with (fail)
      rw [HWJ.out]
      exact ⟨⟨j + 1, by omega, by push_cast; rfl, ⟨by rw [HTK.out]; exact hst12⟩, ⟨(HW11.out.trans (Ws.of_below (below_drew1 (Below.refl _ _)))).trans hws12⟩⟩, by simp [intOf]; omega⟩
    · have e1' : decide ((j : Int) < (m : Int)) = false := decide_eq_false (by omega)
      have hst := HSt.out
      rw [List.take_of_length_le (by have := HRL.out; omega)] at hst
      have HSt2 := Aside0.mk hst
      clear hst HSt
      go_wp2_with (fail)
      go_ret
      have ho := HO.out
      have hpw := HWs.out
      have hnd := HND.out
      simp at hnd
      have hl1 := HS1.out.lt
      refine ⟨rfl, F', G', ⟨⟨fun k hk => ?_, fun k hk => (HFG.out.2 k).2 (((HFG.out.1 k).1 hk).imp (HH.out.fg k) id), (HFG.out.1 p).2 (.inl HH.out.fp), b1, b2, c1, c2, .slice A7 m c7, ?_, ⟨(HFG.out.1 _).2 (.inl HF.out.1), (HFG.out.1 _).2 (.inl HF.out.2.1), (HFG.out.1 _).2 (.inr (.inl rfl)), (HFG.out.1 _).2 (.inr (.inr rfl))⟩, ?_, ?_, ?_, HRVr.out⟩, HWS10.out.then_ hpw (fun b hb => .inr (by rcases hb with rfl | rfl <;> omega)), ⟨fun k hk => (HFG.out.1 k).2 (.inl hk), fun k hk hf => ((HFG.out.1 k).1 hf).elim id (fun e => by omega)⟩, ⟨fun k hk => (HFG.out.2 k).2 (.inl hk), fun k hk hf => ((HFG.out.2 k).1 hf).elim id (fun e => by omega)⟩, fun k hk => ?_⟩⟩
      · have := hpw.size
        rcases (HFG.out.1 k).1 hk with h | h
        · have := HH.out.lt k h; omega
        · omega
      · show wr.heap[p]? = some (.cells (shCells b1 b2 c1 c2 s.T.idx s.T.epoch (.slice A7 m c7) cm) 86 (0, 0))
        rw [HL.out.1, HL.out.2.1]
        exact HPr.out
      · simp; omega
      · exact HS110.out.ws hpw (by omega) (by omega)
      · exact HSt2.out
      · have := hpw.size
        rcases (HFG.out.2 k).1 hk with h | h
        · have := HGB.out k h; omega
        · omega
end
end Go.Proofs.YtgmaedngkhidlaaDoor.Sf
-- SgM
namespace Go.Proofs.YtgmaedngkhidlaaDoor.Sf
open Go Go.RowKit Go.ChangeMaps Go.MapKept Go.Proofs.YtgmaedngkhidlaaDoorW.PrintWords Go.Proofs.YtgmaedngkhidlaaDoorW.PrintLast Go.Proofs.YtgmaedngkhidlaaDoorW.PrintMore
open Go.Maps (Keyed)
set_option linter.unusedVariables false
set_option linter.unusedSimpArgs false
theorem exec_lowL {o : Oper} {a : Act} {w : World} (x lo : Operand) (ho : o.op = .slice 47 x (some lo) none none) (A : Option Addr) (n c m : Nat) (hm : m ≤ n) (A' : Option Addr) (q cc : Nat) (hA : (if c = m then A else A.map (fun x => x.add (m * 14))) = A') (hq : n - m = q) (hc : c - m = cc) (hx : a.eval x = .slice A n c) (hl : a.eval lo = .int .i64 (m : Int)) : (execOp a.eval o).run Tryd.prog w = .ok (.value (.slice A' q cc)) w := by
  have := exec_low (w := w) x lo ho A n c (m : Int) (by omega) (by omega) hx hl
  rw [Int.toNat_natCast, hA, hq, hc] at this
  exact this
section
variable {F G : Nat → Prop} {p : Nat} {s : Sh}
set_option maxHeartbeats 8000000 in
set_option maxRecDepth 100000 in
theorem Fold_calls (i : Int) (w : World) (h : IsS F G w p s) (hGb : ∀ k, G k → k < w.heap.size) (hw : Wf s) (hy : Ky s) :
    Calls Tryd.prog 44 #[.pointer (some ⟨p, 0, none⟩), .int .i64 i] w fun e w' => e = .returned (.int .i64 (foldP s i).2) ∧ ∃ F' G', Acts F G p w w' (foldP s i).1 F' G' := by
  obtain ⟨out, hout⟩ : ∃ out, foldP s i = out := ⟨_, rfl⟩
  rw [hout]
  unfold foldP at hout
  obtain ⟨b1, b2, b3, b4, rv, hp0, hf0, hn0, hs1, hs2, hrv⟩ := h.ex
  obtain ⟨Ar, cr, rfl, hcr, hCr⟩ := hrv.slice
  obtain ⟨n, hn⟩ : ∃ n, s.R.length = n := ⟨_, rfl⟩
  have hlen := hw.len
  have hti := hw.tab.idx
  have hlo := hw.lo
  have hhi := hw.hi
  have hEe : endI s = s.T.idx + s.R.length := rfl
  have HD := Aside0.mk (dead_calls h)
  obtain ⟨E, hE⟩ : ∃ E, endI s = E := ⟨_, rfl⟩
  obtain ⟨lo, hl⟩ : ∃ lo, s.T.idx = lo := ⟨_, rfl⟩
  obtain ⟨ep, hep⟩ : ∃ ep, s.T.epoch = ep := ⟨_, rfl⟩
  obtain ⟨cm, hcm⟩ : ∃ cm, s.C = cm := ⟨_, rfl⟩
  rw [hE, hl, hn] at hEe
  rw [hn] at hlen hcr hCr
  rw [hl] at hti
  rw [hl, hcm] at hlo
  rw [hE, hcm] at hhi
  rw [hl, hep, hcm, hn] at hp0
  rw [hcm, hl] at hout
  have c4 : w.cell? ⟨p, 4, none⟩ = some (.int .i64 lo) := (blk_cell hp0 4).trans rfl
  have c7 : w.cell? ⟨p, 7, none⟩ = some (.int .i64 cm) := (blk_cell hp0 7).trans rfl
  have HL := Aside0.mk (And.intro hl (And.intro hep hcm))
  have HX := Aside0.mk (And.intro hlen (And.intro hti (And.intro hEe (And.intro hlo hhi))))
  have HP := Aside0.mk hp0
  have HF := Aside0.mk hf0
  have HND := Aside0.mk hn0
  have HS1 := Aside0.mk hs1
  have HS2 := Aside0.mk hs2
  have HRV := Aside0.mk hrv
  have HCR := Aside0.mk hcr
  have HC := Aside0.mk hCr
  have HN := Aside0.mk hn
  have HH := Aside0.mk h
  have HGB := Aside0.mk hGb
  have HWf := Aside0.mk hw
  have HKy := Aside0.mk hy
  have HOut := Aside0.mk hout
  clear hp0 hf0 hn0 hs1 hs2 hrv hcr hCr h hGb hw hy hout hlen hti hlo hhi hEe hE hl hep hcm hn
  by_cases c1 : i < lo
  · have d1 : decide (i < lo) = true := decide_eq_true c1
    have ho := HOut.out
    rw [if_pos (.inl c1)] at ho
    subst ho
    clear c1
    go_enter Tryd.func44, Tryd.ntmps44
    go_wp2_with (go_at_call 51; refine HD.out.mono ?_; rintro e w' ⟨rfl, rfl⟩)
    go_ret
    exact ⟨rfl, F, G, Acts.same HH.out (Ws.refl _ _) HGB.out⟩
  have d1 : decide (i < lo) = false := decide_eq_false c1
  by_cases c2 : cm < i
  · have d2 : decide (i > cm) = true := decide_eq_true c2
    have d2' : decide (cm < i) = true := decide_eq_true c2
    have ho := HOut.out
    rw [if_pos (.inr c2)] at ho
    subst ho
    clear c1 c2
    go_enter Tryd.func44, Tryd.ntmps44
    go_wp2_with (go_at_call 51; refine HD.out.mono ?_; rintro e w' ⟨rfl, rfl⟩)
    go_ret
    exact ⟨rfl, F, G, Acts.same HH.out (Ws.refl _ _) HGB.out⟩
  have d2 : decide (i > cm) = false := decide_eq_false c2
  have d2' : decide (cm < i) = false := decide_eq_false c2
  have ho := HOut.out
  rw [if_neg (fun h => h.elim c1 c2)] at ho
  obtain ⟨m, hm⟩ : ∃ m, (i - lo).toNat = m := ⟨_, rfl⟩
  have hwr : IntKind.i64.wrap (i - lo) = (m : Int) := by have := HX.out; rw [IntWalk.i64_in _ (by omega)]; omega
  have HM : Aside0 (m ≤ n ∧ m ≤ 24 ∧ i = lo + (m : Int)) := ⟨by have := HX.out; omega⟩
  rw [hm] at ho
  obtain ⟨R', hR'⟩ : ∃ R', s.R.take m = R' := ⟨_, rfl⟩
  obtain ⟨D', hD'⟩ : ∃ D', s.R.drop m = D' := ⟨_, rfl⟩
  rw [hR', hD'] at ho
  have hRl : R'.length = m := by rw [← hR', List.length_take]; have := HM.out; have := HN.out; omega
  have HRL := Aside0.mk hRl
  have HR' := Aside0.mk hR'
  have HD' := Aside0.mk hD'
  have HMC : Aside0 (m ≤ cr) := ⟨by have := HM.out; have := HCR.out; omega⟩
  have HCOP := Aside0.mk (copied_calls b1 b2 s.T w HS1.out HKy.out.cell HWf.out.tab.wf)
  have r0 : w.cell? ⟨p, 0, none⟩ = some (.map (some b1)) := (blk_cell HP.out 0).trans rfl
  have r1 : w.cell? ⟨p, 1, none⟩ = some (.map (some b2)) := (blk_cell HP.out 1).trans rfl
  subst ho
  clear c1 c2 HOut hR' hD' hRl hm
  go_enter Tryd.func44, Tryd.ntmps44
  go_upto_region 6 with (first
    | (go_at_call 51; refine HD.out.mono ?_; rintro e w' ⟨rfl, rfl⟩)
    | ((with_reducible refine gate_dst (N := 29) rfl ?_); go_must (refine wpList_seg (P := Tryd.prog) rfl 84 (.tmp 28) rfl p 0 rfl [.map (some b1), .map (some b2)] aggS (seg_two r0 r1) ?_))
    | (go_at_call 56; refine HCOP.out.mono ?_; rintro e w9 ⟨c1, c2, rfl, H9⟩; have H9 := Aside0.mk H9)
    | ((with_reducible refine gate_ (.store 84 (.tmp 32) (.tmp 30)) rfl ?_); go_must (refine wpList_part (P := Tryd.prog) rfl 84 (.tmp 32) (.tmp 30) rfl p 0 _ 86 (blk_below HP.out H9.out.1) [.map (some c1), .map (some c2)] rfl rfl aggS (by simp) (by simp [Value.oneCell']) (shCells c1 c2 b3 b4 lo ep (.slice Ar n cr) cm) rfl ?_); intro w10 q1 q2 q3))
  obtain ⟨hb9, hge, hcc, hst9⟩ := H9.out
  have hp9 := HH.out.lt p HH.out.fp
  have hlt9 := hst9.lt
  have hst10 : St2 w10 c1 c2 s.T := hst9.same (q1.block c1 hlt9.1 (fun e => by injection e with e; omega)) (q1.block c2 hlt9.2 (fun e => by injection e with e; omega))
  have hws10 : Ws F w w10 := (Ws.of_below hb9).trans (Ws.of_grown q1 HH.out.fp)
  have hS210 : St2 w10 b3 b4 (lastT s) := (HS2.out.below hb9).same (q1.block b3 (HS2.out.below hb9).lt.1 (fun e => by injection e with e; exact IsMap.ne_cells HS2.out.c HP.out e.symm)) (q1.block b4 (HS2.out.below hb9).lt.2 (fun e => by injection e with e; exact IsMap.ne_cells HS2.out.d HP.out e.symm))
  obtain ⟨F', hF'⟩ : ∃ F' : Nat → Prop, ∀ k, F' k ↔ (F k ∨ k = c1 ∨ k = c2) := ⟨fun k => F k ∨ k = c1 ∨ k = c2, fun _ => Iff.rfl⟩
  obtain ⟨G', hG'⟩ : ∃ G' : Nat → Prop, ∀ k, G' k ↔ (G k ∨ k = c1 ∨ k = c2) := ⟨fun k => G k ∨ k = c1 ∨ k = c2, fun _ => Iff.rfl⟩
  have hrv10 : RV G' w10 (.slice Ar n cr) s.R := HN.out ▸ ((HRV.out.grow (G' := G') (fun b hb hg => ((hG' b).1 hg).elim id (fun e => by omega))).below hb9).ws (Ws.of_grown (P := F) q1 HH.out.fp) (fun k hk => (hG' k).2 (.inl (HH.out.fg k hk)))
  have HRV10 := Aside0.mk hrv10
  have HST10 := Aside0.mk hst10
  have HWS10 := Aside0.mk hws10
  have HS210 := Aside0.mk hS210
  have HP10 := Aside0.mk q3
  have HFG := Aside0.mk (And.intro hF' hG')
  have HO : Aside0 (w.heap.size ≤ c1 ∧ c1 < c2 ∧ c2 < w10.heap.size ∧ p < w.heap.size ∧ w.heap.size ≤ w10.heap.size) := ⟨by have := hst10.lt; have := hws10.size; omega⟩
  clear q1 q2 q3 hb9 hge hcc hst9 hp9 hlt9 hst10 hws10 hS210 hF' hG' hrv10 r0 r1 HCOP H9 c4 c7
  refine start_ (n := 13) (S := fun w' => w'.heap[p]? = some (.cells (shCells c1 c2 b3 b4 lo ep (.slice Ar n cr) cm) 86 (0, 0))) (ds := []) #[false, false, false, false, false, false, false, false, false, false, false, false, false] (by kernel_rfl) rfl rfl (blk_below HP10.out (below_drew1 (Below.refl _ _))) (fun hHeld => ?_)
  refine pure_ (i := 0) (N := some 33) (v := ?_) (a' := ?_) #[true, false, false, false, false, false, false, false, false, false, false, false, false] rfl rfl (by kernel_rfl) (fun _ _ _ h => h) (Or.inl ⟨by rfl, ?_⟩) ?_ ?_
  rotate_left
  · intro w'
    go_simp
    with_reducible rfl
  rotate_left
  · simp only [Act.put, List.setIfInBounds_toArray, List.set_cons_zero, List.set_cons_succ, i64_w, i32_w]
    rfl
  refine pure_ (i := 1) (N := some 34) (v := ?_) (a' := ?_) #[true, true, false, false, false, false, false, false, false, false, false, false, false] rfl rfl (by kernel_rfl) (fun _ _ _ h => h) (Or.inl ⟨by rfl, ?_⟩) ?_ ?_
  rotate_left
  · intro w'
    go_simp
    with_reducible rfl
  rotate_left
  · simp only [Act.put, List.setIfInBounds_toArray, List.set_cons_zero, List.set_cons_succ, i64_w, i32_w]
    rfl
  refine pure_ (i := 2) (N := some 35) (v := ?_) (a' := ?_) #[true, true, true, false, false, false, false, false, false, false, false, false, false] rfl rfl (by kernel_rfl) (fun _ _ _ h => h) (Or.inl ⟨by rfl, ?_⟩) ?_ ?_
  rotate_left
  · intro w'
    go_simp
    with_reducible rfl
  rotate_left
  · simp only [Act.put, List.setIfInBounds_toArray, List.set_cons_zero, List.set_cons_succ, i64_w, i32_w]
    rfl
  refine pure_ (i := 4) (N := some 37) (v := ?_) (a' := ?_) #[true, true, true, false, true, false, false, false, false, false, false, false, false] rfl rfl (by kernel_rfl) (fun _ _ _ h => h) (Or.inl ⟨by rfl, ?_⟩) ?_ ?_
  rotate_left
  · intro w'
    go_simp
    with_reducible rfl
  rotate_left
  · simp only [Act.put, List.setIfInBounds_toArray, List.set_cons_zero, List.set_cons_succ, i64_w, i32_w]
    rfl
  refine pure_ (i := 5) (N := some 38) (v := ?_) (a' := ?_) #[true, true, true, false, true, true, false, false, false, false, false, false, false] rfl rfl (by kernel_rfl) (fun _ _ _ h => h) (Or.inl ⟨by rfl, ?_⟩) ?_ ?_
  rotate_left
  · intro w'
    go_simp
    with_reducible rfl
  rotate_left
  · simp only [Act.put, List.setIfInBounds_toArray, List.set_cons_zero, List.set_cons_succ, i64_w, i32_w]
    rfl
  refine pure_ (i := 6) (N := some 39) (v := ?_) (a' := ?_) #[true, true, true, false, true, true, true, false, false, false, false, false, false] rfl rfl (by kernel_rfl) (fun _ _ _ h => h) (Or.inl ⟨by rfl, ?_⟩) ?_ ?_
  rotate_left
  · intro w'
    go_simp
    with_reducible rfl
  rotate_left
  · simp only [Act.put, List.setIfInBounds_toArray, List.set_cons_zero, List.set_cons_succ, i64_w, i32_w]
    rfl
  refine pure_ (i := 7) (N := some 40) (v := ?_) (a' := ?_) #[true, true, true, false, true, true, true, true, false, false, false, false, false] rfl rfl (by kernel_rfl) (fun _ _ _ h => h) (Or.inl ⟨by rfl, ?_⟩) ?_ ?_
  rotate_left
  · intro w'
    go_simp
    with_reducible rfl
  rotate_left
  · simp only [Act.put, List.setIfInBounds_toArray, List.set_cons_zero, List.set_cons_succ, i64_w, i32_w]
    rfl
  refine pure_ (i := 12) (N := some 45) (v := ?_) (a' := ?_) #[true, true, true, false, true, true, true, true, false, false, false, false, true] rfl rfl (by kernel_rfl) (fun _ _ _ h => h) (Or.inl ⟨by rfl, ?_⟩) ?_ ?_
  rotate_left
  · intro w'
    go_simp
    with_reducible rfl
  rotate_left
  · simp only [Act.put, List.setIfInBounds_toArray, List.set_cons_zero, List.set_cons_succ, i64_w, i32_w]
    rfl
  refine take_ (i := 3) (N := some 36) (v := ?_) (a' := ?_) #[true, true, true, true, true, true, true, true, false, false, false, false, true] rfl rfl (by kernel_rfl) (fun _ _ _ h => h) (Or.inl ⟨by rfl, ?_⟩) hHeld ?_ ?_
  rotate_left
  · intro w' s0
    have d6_ := (blk_cell s0 6).trans (show _ = some (.slice Ar n cr) from rfl)
    go_simp
    with_reducible rfl
  rotate_left
  · simp only [Act.put, List.setIfInBounds_toArray, List.set_cons_zero, List.set_cons_succ, i64_w, i32_w]
    rfl
  refine take_ (i := 8) (N := some 41) (v := ?_) (a' := ?_) #[true, true, true, true, true, true, true, true, true, false, false, false, true] rfl rfl (by kernel_rfl) (fun _ _ _ h => h) (Or.inl ⟨by rfl, ?_⟩) hHeld ?_ ?_
  rotate_left
  · intro w' s0
    have d4_ := (blk_cell s0 4).trans (show _ = some (.int .i64 lo) from rfl)
    go_simp
    with_reducible rfl
  rotate_left
  · simp only [Act.put, List.setIfInBounds_toArray, List.set_cons_zero, List.set_cons_succ, i64_w, i32_w]
    rfl
  refine pure_ (i := 9) (N := some 42) (v := ?_) (a' := ?_) #[true, true, true, true, true, true, true, true, true, true, false, false, true] rfl rfl (by kernel_rfl) (fun _ _ _ h => h) (Or.inl ⟨by rfl, ?_⟩) ?_ ?_
  rotate_left
  · intro w'
    go_simp
    with_reducible rfl
  rotate_left
  · simp only [Act.put, List.setIfInBounds_toArray, List.set_cons_zero, List.set_cons_succ, i64_w, i32_w]
    rfl
  refine pure_ (i := 10) (N := some 43) (v := ?_) (a' := ?_) #[true, true, true, true, true, true, true, true, true, true, true, false, true] rfl rfl (by kernel_rfl) (fun _ _ _ h => h) (Or.inl ⟨by rfl, ?_⟩) ?_ ?_
  rotate_left
  · intro w'
    refine Eq.trans (exec_high (.tmp 36) (.tmp 42) rfl Ar n cr m HMC.out rfl rfl) ?_
    with_reducible rfl
  rotate_left
  · simp only [Act.put, List.setIfInBounds_toArray, List.set_cons_zero, List.set_cons_succ, i64_w, i32_w]
    rfl
  refine pure_ (i := 11) (N := some 44) (v := ?_) (a' := ?_) #[true, true, true, true, true, true, true, true, true, true, true, true, true] rfl rfl (by kernel_rfl) (fun _ _ _ h => h) (Or.inl ⟨by rfl, ?_⟩) ?_ ?_
  rotate_left
  · intro w'
    go_simp
    with_reducible rfl
  rotate_left
  · simp only [Act.put, List.setIfInBounds_toArray, List.set_cons_zero, List.set_cons_succ, i64_w, i32_w]
    rfl
  refine done_ (by kernel_rfl) ?_
  obtain ⟨w10d, hw10d⟩ : ∃ w10d, w10.drew = w10d := ⟨_, rfl⟩
  rw [hw10d]
  have hd10 : Below w10.heap.size w10 w10d := hw10d ▸ below_drew1 (Below.refl _ _)
  have HWS10d : Aside0 (Ws (fun b => b = c1 ∨ b = c2 ∨ b = p) w10 w10d) := ⟨Ws.of_below hd10⟩
  have HST10d := Aside0.mk (HST10.out.below hd10)
  have HP10d := Aside0.mk (blk_below HP10.out hd10)
  clear hw10d hd10 hHeld
  go_upto_region 7 with (fail)
  go_loopw [45] (fun v45 wr => ∃ j : Nat, j ≤ m ∧ v45 = .int .i64 (j : Int) ∧ Aside0 (St2 wr c1 c2 (upT s.T (R'.take j))) ∧ Aside0 (wr.heap[p]? = some (.cells (shCells c1 c2 b3 b4 lo (upT s.T (R'.take j)).epoch (.slice Ar n cr) cm) 86 (0, 0))) ∧ Aside0 (Ws (fun b => b = c1 ∨ b = c2 ∨ b = p) w10 wr)) (fun v45 _ => m - (intOf v45).toNat)
  case atStart => exact ⟨0, Nat.zero_le _, rfl, ⟨by rw [List.take_zero]; exact HST10d.out⟩, ⟨by rw [List.take_zero]; show _ = some (Obj.cells (shCells c1 c2 b3 b4 lo s.T.epoch (.slice Ar n cr) cm) _ _); rw [HL.out.2.1]; exact HP10d.out⟩, HWS10d⟩
  case round =>
    obtain ⟨j, hj, rfl, HSt, HPr, HWs⟩ := hrel
    have HRVr : Aside0 (RV G' wr (.slice Ar n cr) s.R) := ⟨HRV10.out.ws HWs.out (fun k hk => (HFG.out.2 k).2 (by rcases hk with h | h | h; exact .inr (.inl h); exact .inr (.inr h); exact .inl (h ▸ HH.out.fg p HH.out.fp)))⟩
    by_cases e1 : j < m
    · have e1' : decide ((j : Int) < (m : Int)) = true := decide_eq_true (by omega)
      have hjl : j < R'.length := by have := HRL.out; omega
      have hjs : j < s.R.length := by have := HM.out; have := HN.out; omega
      have HWJ : Aside0 (wrap64 ((j : Int) + 1) = (j : Int) + 1) := ⟨by have := HM.out; unfold wrap64; omega⟩
      obtain ⟨ad, hA, hkl, hcell⟩ := C_atR HRVr.out.c j hjs
      subst hA
      obtain ⟨x, hx⟩ : ∃ x, s.R[j] = x := ⟨_, rfl⟩
      rw [hx] at hkl hcell
      have htk : upT s.T (R'.take (j + 1)) = putT (upT s.T (R'.take j)) x := by
        rw [List.take_succ_eq_append_getElem hjl, upT_snoc]
        congr 1
        have hr := HR'.out
        subst hr
        rw [List.getElem_take]
        exact hx
      have hRt : R'.take j = s.R.take j := by rw [← HR'.out, List.take_take, Nat.min_eq_left (by omega)]
      have hat := (HWf.out.at j (by omega)).1
      rw [← hRt] at hat
      have hmay := HWf.out.chain j hjs
      rw [hx] at hmay
      have hmem : x ∈ s.R := hx ▸ List.getElem_mem _
      obtain ⟨tj, htj⟩ : ∃ tj, upT s.T (R'.take j) = tj := ⟨_, rfl⟩
      rw [htj] at htk hat HSt HPr
      obtain ⟨ee, hee⟩ : ∃ ee, tj.epoch = ee := ⟨_, rfl⟩
      rw [hee] at HPr
      obtain ⟨xs, hxs⟩ : ∃ xs, encR x = xs := ⟨_, rfl⟩
      have HPUT : Aside0 (∀ w' : World, St2 w' c1 c2 tj → Calls Tryd.prog 55 #[vS c1 c2, .agg xs.toArray] w' fun e w'' => e = .returned (.tuple #[]) ∧ Ws (fun b => b = c1 ∨ b = c2) w' w'' ∧ St2 w'' c1 c2 (putT tj x)) := ⟨fun w' h' => hxs ▸ put_calls c1 c2 tj x w' h' (by have := HO.out; omega) hat.up hat.upd (HKy.out.rc x hmem) hmay.wf⟩
      have HTK := Aside0.mk htk
      have HCell : Aside0 (∀ q v, xs[q]? = some v → wr.cell? ((ad.add (j * 14)).add q) = some v) := ⟨hxs ▸ hcell⟩
      have HLX : Aside0 (xs.length = 14) := ⟨hxs ▸ encR_len hkl⟩
      have HX1 : Aside0 (∀ v ∈ xs, v.oneCell' = true) := ⟨hxs ▸ encR_one x⟩
      have HEP : Aside0 (∀ w' : World, w'.heap[wr.heap.size]? = some (.cells xs.toArray 32 (0, 0)) → w'.cell? ⟨wr.heap.size, 1, none⟩ = some (.int .i64 x.epoch)) := ⟨fun w' h => (recAt (f := fun i => w'.cell? ⟨wr.heap.size, i, none⟩) hkl (hxs ▸ blk_get h)).epoch⟩
      obtain ⟨xe, hxe⟩ : ∃ xe, x.epoch = xe := ⟨_, rfl⟩
      rw [hxe] at HEP
      have HXE : Aside0 ((putT tj x).epoch = xe) := ⟨hxe⟩
      clear hx hkl hcell htk hRt hat hmay hmem htj hxs hee hxe
      go_upto_region 9 with (first
        | ((with_reducible refine gate_dst (N := 48) rfl ?_); go_must (refine wpList_at (P := Tryd.prog) rfl 32 (.tmp 47) rfl (ad.add (j * 14)) rfl xs (by rw [HLX.out]; exact aggR) HCell.out ?_))
        | ((with_reducible refine gate_ (.store 32 (.tmp 6) (.tmp 48)) rfl ?_); go_must (refine wpList_fill (P := Tryd.prog) rfl 32 (.tmp 6) (.tmp 48) rfl xs _ rfl rfl (by rw [HLX.out]; exact aggR) (by rw [HLX.out]; rfl) HX1.out ?_)))
      obtain ⟨w11, hw11⟩ : ∃ w11, wr.alloc (.cells xs.toArray 32) = w11 := ⟨_, rfl⟩
      have hb11 : Below wr.heap.size wr w11 := hw11 ▸ below_alloc (Below.refl _ _) _
      have HA11 := Aside0.mk (show w11.heap[wr.heap.size]? = some (.cells xs.toArray 32) from hw11 ▸ at_alloc wr _)
      have HP11 := Aside0.mk (blk_below HPr.out hb11)
      have HS11 := Aside0.mk (HSt.out.below hb11)
      have HW11 := Aside0.mk (HWs.out.trans (Ws.of_below hb11))
      rw [hw11]
      have hwrs := HWs.out.size
      obtain ⟨b, hbb⟩ : ∃ b, wr.heap.size = b := ⟨_, rfl⟩
      rw [hbb] at HA11 HEP hwrs ⊢
      have HBN : Aside0 (b ≠ c1 ∧ b ≠ c2 ∧ b ≠ p ∧ p ≠ c1 ∧ p ≠ c2) := ⟨by have := HO.out; omega⟩
      clear hw11 hb11 hbb hwrs
      refine start_ (n := 6) (S := fun w' => w'.heap[p]? = some (.cells (shCells c1 c2 b3 b4 lo ee (.slice (some ad) n cr) cm) 86 (0, 0)) ∧ w'.heap[b]? = some (.cells xs.toArray 32 (0, 0)) ∧ St2 w' c1 c2 tj) (ds := [5]) #[false, false, false, false, false, false] (by kernel_rfl) rfl rfl ⟨blk_below HP11.out (below_drew1 (Below.refl _ _)), blk_below HA11.out (below_drew1 (Below.refl _ _)), HS11.out.below (below_drew1 (Below.refl _ _))⟩ (fun hHeld => ?_)
      refine pure_ (i := 0) (N := some 49) (v := ?_) (a' := ?_) #[true, false, false, false, false, false] rfl rfl (by kernel_rfl) (fun _ _ _ h => h) (Or.inl ⟨by rfl, ?_⟩) ?_ ?_
      rotate_left
      · intro w'
        go_simp
        with_reducible rfl
      rotate_left
      · simp only [Act.put, List.setIfInBounds_toArray, List.set_cons_zero, List.set_cons_succ, i64_w, i32_w]
        rfl
      refine pure_ (i := 1) (N := some 50) (v := ?_) (a' := ?_) #[true, true, false, false, false, false] rfl rfl (by kernel_rfl) (fun _ _ _ h => h) (Or.inl ⟨by rfl, ?_⟩) ?_ ?_
      rotate_left
      · intro w'
        go_simp
        with_reducible rfl
      rotate_left
      · simp only [Act.put, List.setIfInBounds_toArray, List.set_cons_zero, List.set_cons_succ, i64_w, i32_w]
        rfl
      refine pure_ (i := 2) (N := some 51) (v := ?_) (a' := ?_) #[true, true, true, false, false, false] rfl rfl (by kernel_rfl) (fun _ _ _ h => h) (Or.inl ⟨by rfl, ?_⟩) ?_ ?_
      rotate_left
      · intro w'
        go_simp
        with_reducible rfl
      rotate_left
      · simp only [Act.put, List.setIfInBounds_toArray, List.set_cons_zero, List.set_cons_succ, i64_w, i32_w]
        rfl
      refine take_ (i := 3) (N := some 52) (v := ?_) (a' := ?_) #[true, true, true, true, false, false] rfl rfl (by kernel_rfl) (fun _ _ _ h => h) (Or.inl ⟨by rfl, ?_⟩) hHeld ?_ ?_
      rotate_left
      · rintro w' ⟨s0, s1, s2⟩
        refine Eq.trans (exec_seg (P := Tryd.prog) 84 (.tmp 51) rfl p 0 rfl [.map (some c1), .map (some c2)] aggS (seg_two (show w'.cell? ⟨p, 0, none⟩ = some (.map (some c1)) from (blk_cell s0 0).trans rfl) (show w'.cell? ⟨p, 1, none⟩ = some (.map (some c2)) from (blk_cell s0 1).trans rfl))) ?_
        with_reducible rfl
      rotate_left
      · simp only [Act.put, List.setIfInBounds_toArray, List.set_cons_zero, List.set_cons_succ, i64_w, i32_w]
        rfl
      refine take_ (i := 4) (N := some 53) (v := ?_) (a' := ?_) #[true, true, true, true, true, false] rfl rfl (by kernel_rfl) (fun _ _ _ h => h) (Or.inl ⟨by rfl, ?_⟩) hHeld ?_ ?_
      rotate_left
      · rintro w' ⟨s0, s1, s2⟩
        refine Eq.trans (exec_seg (P := Tryd.prog) 32 (.tmp 6) rfl b 0 rfl xs (by rw [HLX.out]; exact aggR) (SegAt.blk (t := 32) (fr := (0, 0)) s1)) ?_
        with_reducible rfl
      rotate_left
      · simp only [Act.put, List.setIfInBounds_toArray, List.set_cons_zero, List.set_cons_succ, i64_w, i32_w]
        rfl
      refine last_ (i := 5) (N := some 54) #[true, true, true, true, true, true] rfl rfl (by kernel_rfl) (by decide) (fun K hK => ?_)
      refine goes_ Tryd.func55 (by kernel_rfl) rfl #[vS c1 c2, .agg xs.toArray] (by rfl) rfl rfl (by first | rfl | (simp; done) | (simp only [List.map_toArray, List.map_cons, List.map_nil]; rfl)) ?_
      with_reducible refine (HPUT.out _ hHeld.2.2).mono ?_
      rintro e w12 ⟨rfl, hws12, hst12⟩
      refine ⟨_, rfl, ?_⟩
      refine hK.out _ _ ?_
      clear hK K
      refine norm_ (a' := ?_) ?_ ?_
      rotate_left
      · show Act.put _ (some 54) _ = _
        simp only [Act.put, List.setIfInBounds_toArray, List.set_cons_zero, List.set_cons_succ, i64_w, i32_w]
        rfl
      refine done_ (by kernel_rfl) ?_
      have hdd : Ws (fun b => b = c1 ∨ b = c2) w11 w12 := (Ws.of_below (below_drew1 (Below.refl _ _))).trans hws12
      have hP12 := (hdd.block p (blk_lt HP11.out) (by have := HBN.out; omega)).trans HP11.out
      have hA12 := (hdd.block b (blk_lt HA11.out) (by have := HBN.out; omega)).trans HA11.out
      have q1 : w12.cell? ⟨b, 1, none⟩ = some (.int .i64 xe) := HEP.out _ hA12
      have q5 : w12.cell? ⟨p, 5, none⟩ = some (.int .i64 ee) := (blk_cell hP12 5).trans rfl
      have q5f := blk_frozen hP12 5
      have HP12 := Aside0.mk hP12
      have HW12 : Aside0 (Ws (fun b => b = c1 ∨ b = c2 ∨ b = p) w10 w12) := ⟨HW11.out.trans (hdd.mono (fun b _ hb => hb.elim .inl (fun h => .inr (.inl h))))⟩
      have HS12 := Aside0.mk hst12
      clear hP12 hA12 hdd hws12 hst12
      go_wp2_with (fail)
      rw [HWJ.out]
      exact ⟨⟨j + 1, by omega, by push_cast; rfl, ⟨by rw [HTK.out]; exact HS12.out.same (Below.heap_setCell _ ⟨p, 5, none⟩ _ c1 (Ne.symm HBN.out.2.2.2.1)) (Below.heap_setCell _ ⟨p, 5, none⟩ _ c2 (Ne.symm HBN.out.2.2.2.2))⟩, ⟨by rw [HTK.out, HXE.out]; exact blk_set HP12.out 5 _⟩, ⟨HW12.out.trans (Ws.of_set (P := fun b => b = c1 ∨ b = c2 ∨ b = p) w12 (.inr (.inr rfl)) 5 _)⟩⟩, by simp [intOf]; omega⟩
    · have e1' : decide ((j : Int) < (m : Int)) = false := decide_eq_false (by omega)
      have hst := HSt.out
      have hpr := HPr.out
      rw [List.take_of_length_le (by have := HRL.out; omega)] at hst hpr
      have HSt2 := Aside0.mk hst
      obtain ⟨ee, hee⟩ : ∃ ee, (upT s.T R').epoch = ee := ⟨_, rfl⟩
      rw [hee] at hpr
      have HPr2 := Aside0.mk hpr
      have HEE := Aside0.mk hee
      obtain ⟨A', hA'⟩ : ∃ A', (if cr = m then Ar else Ar.map (fun x => x.add (m * 14))) = A' := ⟨_, rfl⟩
      obtain ⟨q, hq⟩ : ∃ q, n - m = q := ⟨_, rfl⟩
      obtain ⟨cc, hcc⟩ : ∃ cc, cr - m = cc := ⟨_, rfl⟩
      have hCd := Kd.C_drop (m := m) (HN.out ▸ HRVr.out.c : kR.C wr Ar s.R.length s.R) (by have := HM.out; have := HN.out; omega) (by rw [HN.out]; exact HCR.out)
      rw [List.length_drop] at hCd
      have hCd' : kR.C wr A' q D' := by rw [← hA', ← HD'.out, ← hq, ← HN.out]; exact hCd
      have hDl : D'.length = q := by rw [← HD'.out, List.length_drop, HN.out, hq]
      have HDL := Aside0.mk hDl
      have HCL : Aside0 (∀ w' : World, kR.C w' A' q D' → wr.heap.size ≤ w'.heap.size → Calls Tryd.prog 54 #[.slice A' q cc] w' fun e w'' => ∃ v, e = .returned v ∧ Below w'.heap.size w' w'' ∧ RV G' w'' v D') := ⟨fun w' hc hs => by
        have := Clone_calls (G := G') A' cc D' w' (hDl.symm ▸ hc) (by rw [hDl]; have := HX.out; omega) (fun k hk hg => by
          have h1 := HO.out
          have h2 := HWs.out.size
          rcases (HFG.out.2 k).1 hg with h | h
          · have := HGB.out k h; omega
          · omega)
        rw [hDl] at this
        exact this⟩
      have HMN : Aside0 (m ≤ n) := ⟨HM.out.1⟩
      have HA' := Aside0.mk hA'
      have HQ := Aside0.mk hq
      have HCC := Aside0.mk hcc
      have HCd := Aside0.mk hCd'
      clear hst hpr HSt HPr hA' hq hcc hCd hCd' hDl hee
      go_upto_region 12 with (fail)
      refine start_ (n := 21) (S := fun w' => w'.heap[p]? = some (.cells (shCells c1 c2 b3 b4 lo ee (.slice Ar n cr) cm) 86 (0, 0)) ∧ kR.C w' A' q D' ∧ Below wr.heap.size wr w') (ds := [17, 20]) #[false, false, false, false, false, false, false, false, false, false, false, false, false, false, false, false, false, false, false, false, false] (by kernel_rfl) rfl rfl ⟨blk_below HPr2.out (below_drew1 (Below.refl _ _)), Kd.C_below HCd.out (below_drew1 (Below.refl _ _)), below_drew1 (Below.refl _ _)⟩ (fun hHeld => ?_)
      refine pure_ (i := 0) (N := some 61) (v := ?_) (a' := ?_) #[true, false, false, false, false, false, false, false, false, false, false, false, false, false, false, false, false, false, false, false, false] rfl rfl (by kernel_rfl) (fun _ _ _ h => h) (Or.inl ⟨by rfl, ?_⟩) ?_ ?_
      rotate_left
      · intro w'
        go_simp
        with_reducible rfl
      rotate_left
      · simp only [Act.put, List.setIfInBounds_toArray, List.set_cons_zero, List.set_cons_succ, i64_w, i32_w]
        rfl
      refine pure_ (i := 1) (N := some 62) (v := ?_) (a' := ?_) #[true, true, false, false, false, false, false, false, false, false, false, false, false, false, false, false, false, false, false, false, false] rfl rfl (by kernel_rfl) (fun _ _ _ h => h) (Or.inl ⟨by rfl, ?_⟩) ?_ ?_
      rotate_left
      · intro w'
        go_simp
        with_reducible rfl
      rotate_left
      · simp only [Act.put, List.setIfInBounds_toArray, List.set_cons_zero, List.set_cons_succ, i64_w, i32_w]
        rfl
      refine pure_ (i := 2) (N := some 63) (v := ?_) (a' := ?_) #[true, true, true, false, false, false, false, false, false, false, false, false, false, false, false, false, false, false, false, false, false] rfl rfl (by kernel_rfl) (fun _ _ _ h => h) (Or.inl ⟨by rfl, ?_⟩) ?_ ?_
      rotate_left
      · intro w'
        go_simp
        with_reducible rfl
      rotate_left
      · simp only [Act.put, List.setIfInBounds_toArray, List.set_cons_zero, List.set_cons_succ, i64_w, i32_w]
        rfl
      refine pure_ (i := 3) (N := some 64) (v := ?_) (a' := ?_) #[true, true, true, true, false, false, false, false, false, false, false, false, false, false, false, false, false, false, false, false, false] rfl rfl (by kernel_rfl) (fun _ _ _ h => h) (Or.inl ⟨by rfl, ?_⟩) ?_ ?_
      rotate_left
      · intro w'
        go_simp
        with_reducible rfl
      rotate_left
      · simp only [Act.put, List.setIfInBounds_toArray, List.set_cons_zero, List.set_cons_succ, i64_w, i32_w]
        rfl
      refine pure_ (i := 4) (N := some 65) (v := ?_) (a' := ?_) #[true, true, true, true, true, false, false, false, false, false, false, false, false, false, false, false, false, false, false, false, false] rfl rfl (by kernel_rfl) (fun _ _ _ h => h) (Or.inl ⟨by rfl, ?_⟩) ?_ ?_
      rotate_left
      · intro w'
        go_simp
        with_reducible rfl
      rotate_left
      · simp only [Act.put, List.setIfInBounds_toArray, List.set_cons_zero, List.set_cons_succ, i64_w, i32_w]
        rfl
      refine pure_ (i := 6) (N := some 67) (v := ?_) (a' := ?_) #[true, true, true, true, true, false, true, false, false, false, false, false, false, false, false, false, false, false, false, false, false] rfl rfl (by kernel_rfl) (fun _ _ _ h => h) (Or.inl ⟨by rfl, ?_⟩) ?_ ?_
      rotate_left
      · intro w'
        go_simp
        with_reducible rfl
      rotate_left
      · simp only [Act.put, List.setIfInBounds_toArray, List.set_cons_zero, List.set_cons_succ, i64_w, i32_w]
        rfl
      refine pure_ (i := 7) (N := some 68) (v := ?_) (a' := ?_) #[true, true, true, true, true, false, true, true, false, false, false, false, false, false, false, false, false, false, false, false, false] rfl rfl (by kernel_rfl) (fun _ _ _ h => h) (Or.inl ⟨by rfl, ?_⟩) ?_ ?_
      rotate_left
      · intro w'
        go_simp
        with_reducible rfl
      rotate_left
      · simp only [Act.put, List.setIfInBounds_toArray, List.set_cons_zero, List.set_cons_succ, i64_w, i32_w]
        rfl
      refine pure_ (i := 8) (N := some 69) (v := ?_) (a' := ?_) #[true, true, true, true, true, false, true, true, true, false, false, false, false, false, false, false, false, false, false, false, false] rfl rfl (by kernel_rfl) (fun _ _ _ h => h) (Or.inl ⟨by rfl, ?_⟩) ?_ ?_
      rotate_left
      · intro w'
        go_simp
        with_reducible rfl
      rotate_left
      · simp only [Act.put, List.setIfInBounds_toArray, List.set_cons_zero, List.set_cons_succ, i64_w, i32_w]
        rfl
      refine pure_ (i := 9) (N := some 70) (v := ?_) (a' := ?_) #[true, true, true, true, true, false, true, true, true, true, false, false, false, false, false, false, false, false, false, false, false] rfl rfl (by kernel_rfl) (fun _ _ _ h => h) (Or.inl ⟨by rfl, ?_⟩) ?_ ?_
      rotate_left
      · intro w'
        go_simp
        with_reducible rfl
      rotate_left
      · simp only [Act.put, List.setIfInBounds_toArray, List.set_cons_zero, List.set_cons_succ, i64_w, i32_w]
        rfl
      refine pure_ (i := 14) (N := some 75) (v := ?_) (a' := ?_) #[true, true, true, true, true, false, true, true, true, true, false, false, false, false, true, false, false, false, false, false, false] rfl rfl (by kernel_rfl) (fun _ _ _ h => h) (Or.inl ⟨by rfl, ?_⟩) ?_ ?_
      rotate_left
      · intro w'
        go_simp
        with_reducible rfl
      rotate_left
      · simp only [Act.put, List.setIfInBounds_toArray, List.set_cons_zero, List.set_cons_succ, i64_w, i32_w]
        rfl
      refine take_ (i := 5) (N := some 66) (v := ?_) (a' := ?_) #[true, true, true, true, true, true, true, true, true, true, false, false, false, false, true, false, false, false, false, false, false] rfl rfl (by kernel_rfl) (fun _ _ _ h => h) (Or.inl ⟨by rfl, ?_⟩) hHeld ?_ ?_
      rotate_left
      · rintro w' ⟨s0, s1, s2⟩
        have d6_ := (blk_cell s0 6).trans (show _ = some (.slice Ar n cr) from rfl)
        go_simp
        with_reducible rfl
      rotate_left
      · simp only [Act.put, List.setIfInBounds_toArray, List.set_cons_zero, List.set_cons_succ, i64_w, i32_w]
        rfl
      refine take_ (i := 10) (N := some 71) (v := ?_) (a' := ?_) #[true, true, true, true, true, true, true, true, true, true, true, false, false, false, true, false, false, false, false, false, false] rfl rfl (by kernel_rfl) (fun _ _ _ h => h) (Or.inl ⟨by rfl, ?_⟩) hHeld ?_ ?_
      rotate_left
      · rintro w' ⟨s0, s1, s2⟩
        have d4_ := (blk_cell s0 4).trans (show _ = some (.int .i64 lo) from rfl)
        go_simp
        with_reducible rfl
      rotate_left
      · simp only [Act.put, List.setIfInBounds_toArray, List.set_cons_zero, List.set_cons_succ, i64_w, i32_w]
        rfl
      refine pure_ (i := 11) (N := some 72) (v := ?_) (a' := ?_) #[true, true, true, true, true, true, true, true, true, true, true, true, false, false, true, false, false, false, false, false, false] rfl rfl (by kernel_rfl) (fun _ _ _ h => h) (Or.inl ⟨by rfl, ?_⟩) ?_ ?_
      rotate_left
      · intro w'
        go_simp
        with_reducible rfl
      rotate_left
      · simp only [Act.put, List.setIfInBounds_toArray, List.set_cons_zero, List.set_cons_succ, i64_w, i32_w]
        rfl
      refine pure_ (i := 12) (N := some 73) (v := ?_) (a' := ?_) #[true, true, true, true, true, true, true, true, true, true, true, true, true, false, true, false, false, false, false, false, false] rfl rfl (by kernel_rfl) (fun _ _ _ h => h) (Or.inl ⟨by rfl, ?_⟩) ?_ ?_
      rotate_left
      · intro w'
        refine Eq.trans (exec_lowL (.tmp 66) (.tmp 72) rfl Ar n cr m HMN.out A' q cc HA'.out HQ.out HCC.out rfl rfl) ?_
        with_reducible rfl
      rotate_left
      · simp only [Act.put, List.setIfInBounds_toArray, List.set_cons_zero, List.set_cons_succ, i64_w, i32_w]
        rfl
      refine one_ (i := 13) (N := some 74) #[true, true, true, true, true, true, true, true, true, true, true, true, true, true, true, false, false, false, false, false, false] rfl rfl (by kernel_rfl) (by decide) (fun K hK => ?_)
      refine goes_ Tryd.func54 (by kernel_rfl) rfl #[.slice A' q cc] (by rfl) rfl rfl (by first | rfl | (simp; done) | (simp only [List.map_toArray, List.map_cons, List.map_nil]; rfl)) ?_
      with_reducible refine (HCL.out _ hHeld.2.1 hHeld.2.2.size).mono ?_
      rintro e w7 ⟨v7, rfl, hb7, hrv7⟩
      refine ⟨_, rfl, ?_⟩
      obtain ⟨A7, c7, e7, _, _⟩ := hrv7.slice
      rw [HDL.out] at e7
      subst e7
      have HRV7 := Aside0.mk hrv7
      clear hrv7
      refine hK.out _ _ ⟨blk_below hHeld.1 hb7, Kd.C_below hHeld.2.1 hb7, below_step hHeld.2.2 hb7⟩ (fun hHeld => ?_)
      clear hK K
      refine norm_ (a' := ?_) ?_ ?_
      rotate_left
      · show Act.put _ (some 74) _ = _
        simp only [Act.put, List.setIfInBounds_toArray, List.set_cons_zero, List.set_cons_succ, i64_w, i32_w]
        rfl
      refine pure_ (i := 15) (N := some 76) (v := ?_) (a' := ?_) #[true, true, true, true, true, true, true, true, true, true, true, true, true, true, true, true, false, false, false, false, false] rfl rfl (by kernel_rfl) (fun _ _ _ h => h) (Or.inl ⟨by rfl, ?_⟩) ?_ ?_
      rotate_left
      · intro w'
        go_simp
        with_reducible rfl
      rotate_left
      · simp only [Act.put, List.setIfInBounds_toArray, List.set_cons_zero, List.set_cons_succ, i64_w, i32_w]
        rfl
      refine pure_ (i := 16) (N := some 77) (v := ?_) (a' := ?_) #[true, true, true, true, true, true, true, true, true, true, true, true, true, true, true, true, true, false, false, false, false] rfl rfl (by kernel_rfl) (fun _ _ _ h => h) (Or.inl ⟨by rfl, ?_⟩) ?_ ?_
      rotate_left
      · intro w'
        go_simp
        with_reducible rfl
      rotate_left
      · simp only [Act.put, List.setIfInBounds_toArray, List.set_cons_zero, List.set_cons_succ, i64_w, i32_w]
        rfl
      refine last_ (i := 17) (N := none) #[true, true, true, true, true, true, true, true, true, true, true, true, true, true, true, true, true, true, false, false, false] rfl rfl (by kernel_rfl) (by decide) (fun K hK => ?_)
      have hcS := (blk_cell hHeld.1 6).trans (show _ = some (Value.slice Ar n cr) from rfl)
      have hfS := blk_frozen hHeld.1 6
      refine skip_ (w1 := ?_) (by rfl) rfl ?_ ?_
      rotate_left
      · go_simp
        rfl
      refine hK.out _ _ ?_
      clear hK K
      refine pure_ (i := 18) (N := some 78) (v := ?_) (a' := ?_) #[true, true, true, true, true, true, true, true, true, true, true, true, true, true, true, true, true, true, true, false, false] rfl rfl (by kernel_rfl) (fun _ _ _ h => h) (Or.inl ⟨by rfl, ?_⟩) ?_ ?_
      rotate_left
      · intro w'
        go_simp
        with_reducible rfl
      rotate_left
      · simp only [Act.put, List.setIfInBounds_toArray, List.set_cons_zero, List.set_cons_succ, i64_w, i32_w]
        rfl
      refine pure_ (i := 19) (N := some 79) (v := ?_) (a' := ?_) #[true, true, true, true, true, true, true, true, true, true, true, true, true, true, true, true, true, true, true, true, false] rfl rfl (by kernel_rfl) (fun _ _ _ h => h) (Or.inl ⟨by rfl, ?_⟩) ?_ ?_
      rotate_left
      · intro w'
        go_simp
        with_reducible rfl
      rotate_left
      · simp only [Act.put, List.setIfInBounds_toArray, List.set_cons_zero, List.set_cons_succ, i64_w, i32_w]
        rfl
      refine last_ (i := 20) (N := none) #[true, true, true, true, true, true, true, true, true, true, true, true, true, true, true, true, true, true, true, true, true] rfl rfl (by kernel_rfl) (by decide) (fun K hK => ?_)
      have hbS := blk_set hHeld.1 6 (.slice A7 q c7)
      have hcS2 := (blk_cell hbS 4).trans (show _ = some (Value.int .i64 lo) from rfl)
      have hfS2 := blk_frozen hbS 4
      refine skip_ (w1 := ?_) (by rfl) rfl ?_ ?_
      rotate_left
      · go_simp
        rfl
      refine hK.out _ _ ?_
      clear hK K
      refine done_ (by kernel_rfl) ?_
      obtain ⟨k0, k1, k2⟩ := hHeld
      obtain ⟨w8, hw8⟩ : ∃ w8, (w7.setCell ⟨p, 6, none⟩ (.slice A7 q c7)).setCell ⟨p, 4, none⟩ (.int .i64 i) = w8 := ⟨_, rfl⟩
      have HP8 : Aside0 (w8.heap[p]? = some (.cells (shCells c1 c2 b3 b4 i ee (.slice A7 q c7) cm) 86 (0, 0))) := ⟨hw8 ▸ blk_set (blk_set k0 6 _) 4 _⟩
      have hws78 : Ws (fun b => b = p) w7 w8 := hw8 ▸ (Ws.of_set (P := fun b => b = p) (b := p) w7 rfl 6 _).trans (Ws.of_set (P := fun b => b = p) (b := p) _ rfl 4 _)
      have HW78 := Aside0.mk hws78
      have HK2 := Aside0.mk k2
      rw [hw8]
      clear hw8 hws78 k0 k1 k2 hb7
      go_wp2_with (fail)
      go_ret
      have ho := HO.out
      have hws78 := HW78.out
      have hwr7 := HWs.out.trans (Ws.of_below HK2.out)
      have hpw : Ws (fun b => b = c1 ∨ b = c2 ∨ b = p) w10 w8 := hwr7.trans (hws78.mono (fun b _ h => .inr (.inr h)))
      have hnd := HND.out
      simp at hnd
      have hl2 := HS2.out.lt
      have hat := (HWf.out.at m (by have := HN.out; have := HM.out; omega)).2
      rw [HR'.out, HL.out.1] at hat
      have hidx : (upT s.T R').idx = i := by rw [hat]; have := HM.out; omega
      have hlast : upT (upT s.T R') D' = lastT s := by unfold lastT; rw [← upT_append, ← HR'.out, ← HD'.out, List.take_append_drop]
      have hbp3 := IsMap.ne_cells HS2.out.c HP.out
      have hbp4 := IsMap.ne_cells HS2.out.d HP.out
      refine ⟨rfl, F', G', ⟨⟨fun k hk => ?_, fun k hk => (HFG.out.2 k).2 (((HFG.out.1 k).1 hk).imp (HH.out.fg k) id), (HFG.out.1 p).2 (.inl HH.out.fp), c1, c2, b3, b4, .slice A7 q c7, ?_, ⟨(HFG.out.1 _).2 (.inr (.inl rfl)), (HFG.out.1 _).2 (.inr (.inr rfl)), (HFG.out.1 _).2 (.inl HF.out.2.2.1), (HFG.out.1 _).2 (.inl HF.out.2.2.2)⟩, ?_, ?_, ?_, ?_⟩, HWS10.out.then_ hpw (fun b hb => by
          rcases hb with h | h | h
          · exact .inr (by omega)
          · exact .inr (by omega)
          · exact .inl (h ▸ HH.out.fp)), ⟨fun k hk => (HFG.out.1 k).2 (.inl hk), fun k hk hf => ((HFG.out.1 k).1 hf).elim id (fun e => by omega)⟩, ⟨fun k hk => (HFG.out.2 k).2 (.inl hk), fun k hk hf => ((HFG.out.2 k).1 hf).elim id (fun e => by omega)⟩, fun k hk => ?_⟩⟩
      · have := hpw.size
        rcases (HFG.out.1 k).1 hk with h | h
        · have := HH.out.lt k h; omega
        · omega
      · show w8.heap[p]? = some (.cells (shCells c1 c2 b3 b4 (upT s.T R').idx (upT s.T R').epoch (.slice A7 q c7) cm) 86 (0, 0))
        rw [hidx, HEE.out]
        exact HP8.out
      · simp; omega
      · exact (HSt2.out.below HK2.out).ws hws78 (by omega) (by omega)
      · show St2 w8 b3 b4 (upT (upT s.T R') D')
        rw [hlast]
        exact HS210.out.ws hpw (by omega) (by omega)
      · exact HRV7.out.ws hws78 (fun k hk => (HFG.out.2 k).2 (.inl (hk ▸ HH.out.fg p HH.out.fp)))
      · have := hpw.size
        rcases (HFG.out.2 k).1 hk with h | h
        · have := HGB.out k h; omega
        · omega
end
end Go.Proofs.YtgmaedngkhidlaaDoor.Sf
-- SgN
namespace Go.Proofs.YtgmaedngkhidlaaDoor.Sf
open Go Go.RowKit Go.ChangeMaps Go.MapKept Go.Proofs.YtgmaedngkhidlaaDoorW.PrintWords Go.Proofs.YtgmaedngkhidlaaDoorW.PrintLast Go.Proofs.YtgmaedngkhidlaaDoorW.PrintMore
open Go.Maps (Keyed)
set_option linter.unusedVariables false
set_option linter.unusedSimpArgs false
def pickC (k : List Int) (c : Cel) (x : Rc) : Cel := if x.key = k then ⟨k, x.ver, x.val⟩ else c
def cleanP (s : Sh) (k : List Int) : Cel := (s.R.take (s.C - s.T.idx).toNat).foldl (pickC k) (lookC s.T.cells k)
theorem pick_len {k : List Int} (hk : k.length = 8) : ∀ (l : List Rc) (c : Cel), c.key.length = 8 → (l.foldl (pickC k) c).key.length = 8
  | [], c, h => h
  | x :: r, c, h => pick_len hk r (pickC k c x) (by unfold pickC; split; exact hk; exact h)
theorem pick_snoc {k : List Int} {l : List Rc} {c : Cel} {j : Nat} {x : Rc} (hj : l[j]? = some x) : (l.take (j + 1)).foldl (pickC k) c = pickC k ((l.take j).foldl (pickC k) c) x := by
  obtain ⟨hl, he⟩ := List.getElem?_eq_some_iff.1 hj
  rw [List.take_succ_eq_append_getElem hl, List.foldl_append, he]
  rfl
section
variable {F G : Nat → Prop} {p : Nat} {s : Sh}
set_option maxHeartbeats 8000000 in
set_option maxRecDepth 100000 in
theorem Clean_calls (k : List Int) (w : World) (h : IsS F G w p s) (hw : Wf s) (hy : Ky s) (hk : KeyL k) :
    Calls Tryd.prog 37 #[.pointer (some ⟨p, 0, none⟩), vK k] w fun e w' => e = .returned (vC (cleanP s k)) ∧ Below w.heap.size w w' := by
  obtain ⟨ks, hks⟩ : ∃ ks, encK k = ks := ⟨_, rfl⟩
  change Calls Tryd.prog 37 #[.pointer (some ⟨p, 0, none⟩), .agg (encK k).toArray] w _
  have hlk := encK_len hk.len
  rw [hks] at hlk ⊢
  obtain ⟨g, hg⟩ : ∃ g, w.heap.size = g := ⟨_, rfl⟩
  obtain ⟨w1, hw1⟩ : ∃ w1, w.alloc (.cells ks.toArray 28) = w1 := ⟨_, rfl⟩
  have hs1 : w1.heap.size = g + 1 := by rw [← hw1, ← hg]; simp
  obtain ⟨w2, hw2⟩ : ∃ w2, w1.alloc (.cells zCel.toArray 45) = w2 := ⟨_, rfl⟩
  have hb1 : Below w.heap.size w w1 := hw1 ▸ below_alloc (Below.refl _ _) _
  have hb2 : Below w.heap.size w w2 := below_then hb1 hb1.size (hw2 ▸ below_alloc (Below.refl _ _) _)
  have hK1 : w1.heap[g]? = some (.cells ks.toArray 28) := hg ▸ hw1 ▸ at_alloc w _
  have hK2 : w2.heap[g]? = some (.cells ks.toArray 28) := hw2 ▸ under_alloc hK1 _
  have hZ2 : w2.heap[g + 1]? = some (.cells zCel.toArray 45) := hs1 ▸ hw2 ▸ at_alloc w1 _
  have h2 := h.below hb2
  obtain ⟨b1, b2, b3, b4, rv, hp0, hf0, hn0, hS1, hS2, hrv⟩ := h2.ex
  obtain ⟨Ar, cr, rfl, hcr, hCr⟩ := hrv.slice
  obtain ⟨n, hn⟩ : ∃ n, s.R.length = n := ⟨_, rfl⟩
  obtain ⟨lo, hl⟩ : ∃ lo, s.T.idx = lo := ⟨_, rfl⟩
  obtain ⟨ep, hep⟩ : ∃ ep, s.T.epoch = ep := ⟨_, rfl⟩
  obtain ⟨cm, hcm⟩ : ∃ cm, s.C = cm := ⟨_, rfl⟩
  have hti := hw.tab.idx
  have hlo := hw.lo
  have hhi := hw.hi
  have hlen := hw.len
  unfold endI at hhi
  rw [hl, hep, hcm, hn] at hp0
  rw [hn] at hcr hCr hlen
  rw [hl, hcm, hn] at hhi
  rw [hl, hcm] at hlo
  rw [hl] at hti
  obtain ⟨m, hm⟩ : ∃ m, (cm - lo).toNat = m := ⟨_, rfl⟩
  have hwr : IntKind.i64.wrap (cm - lo) = (m : Int) := by rw [IntWalk.i64_in _ (by omega)]; omega
  have HM : Aside0 (m ≤ n ∧ m ≤ 24 ∧ m ≤ cr) := ⟨by omega⟩
  obtain ⟨out, hout⟩ : ∃ out, cleanP s k = out := ⟨_, rfl⟩
  rw [hout]
  unfold cleanP at hout
  rw [hcm, hl, hm] at hout
  have HOut := Aside0.mk hout
  have HP2 := Aside0.mk hp0
  have HS2 := Aside0.mk hS1
  have HH2 := Aside0.mk h2
  have HK2 := Aside0.mk hK2
  have HZ2 := Aside0.mk hZ2
  have HB2 := Aside0.mk hb2
  have HRV2 : Aside0 (RV (fun b => G b ∨ w2.heap.size ≤ b) w2 (.slice Ar n cr) s.R) := ⟨hn ▸ hrv.grow (fun b hb hg => hg.elim id (fun e => by omega))⟩
  have HW := Aside0.mk (And.intro hw1 hw2)
  have HLK := Aside0.mk hlk
  have HKL := Aside0.mk hk
  have HKy := Aside0.mk hy
  have HN := Aside0.mk hn
  have HKS := Aside0.mk hks
  have HSZ : Aside0 (w.heap.size = g ∧ p < g ∧ w2.heap.size = g + 2 ∧ n ≤ 24) := ⟨hg, hg ▸ h.lt p h.fp, by rw [← hw2]; simp [hs1], hlen⟩
  have HDL : Aside0 ((encC (lookC s.T.cells k)).length = 10) := ⟨encC_len (lookC_len hk.len)⟩
  have HD1 := Aside0.mk (encC_one (lookC s.T.cells k))
  have HLOOK : Aside0 (∀ w' : World, IsCs w' b1 s.T.cells → (Instr.lookup 81 (.map (some b1)) (.agg ks.toArray) false).run Tryd.prog w' = .ok (.agg (encC (lookC s.T.cells k)).toArray) w') := ⟨fun w' hc => hks ▸ IsCs.look hc hw.tab.up hk false⟩
  change Calls _ _ _ _ fun e w' => e = .returned (.agg (encC out).toArray) ∧ Below w.heap.size w w'
  obtain ⟨ds, hds⟩ : ∃ ds, encC (lookC s.T.cells k) = ds := ⟨_, rfl⟩
  rw [hds] at HDL HD1 HLOOK
  have HDS := Aside0.mk hds
  have HMC : Aside0 (m ≤ cr) := ⟨HM.out.2.2⟩
  clear hlk hw1 hw2 hs1 hb1 hb2 hK1 hK2 hZ2 h2 hp0 hf0 hn0 hS1 hS2 hrv hcr hCr hn hl hep hcm hti hlo hhi hlen hout hds h hw hy hk hks hm
  go_enter Tryd.func37, Tryd.ntmps37
  go_upto_region 1 with (fail)
  rw [HW.out.1, HW.out.2]
  go_upto_region 3 with (go_at_call 51; refine (dead_calls HH2.out).mono ?_; rintro e w' ⟨rfl, rfl⟩)
  refine start_ (n := 9) (S := fun w' => w'.heap[p]? = some (.cells (shCells b1 b2 b3 b4 lo ep (.slice Ar n cr) cm) 86 (0, 0)) ∧ w'.heap[g]? = some (.cells ks.toArray 28 (0, 0)) ∧ St2 w' b1 b2 s.T ∧ Below w2.heap.size w2 w') (ds := [8]) #[false, false, false, false, false, false, false, false, false] (by kernel_rfl) rfl rfl ⟨HP2.out, HK2.out, HS2.out.below (below_drew1 (Below.refl _ _)), below_drew1 (Below.refl _ _)⟩ (fun hHeld => ?_)
  refine pure_ (i := 0) (N := some 11) (v := ?_) (a' := ?_) #[true, false, false, false, false, false, false, false, false] rfl rfl (by kernel_rfl) (fun _ _ _ h => h) (Or.inl ⟨by rfl, ?_⟩) ?_ ?_
  rotate_left
  · intro w'
    go_simp
    with_reducible rfl
  rotate_left
  · simp only [Act.put, List.setIfInBounds_toArray, List.set_cons_zero, List.set_cons_succ, i64_w, i32_w]
    rfl
  refine pure_ (i := 1) (N := some 12) (v := ?_) (a' := ?_) #[true, true, false, false, false, false, false, false, false] rfl rfl (by kernel_rfl) (fun _ _ _ h => h) (Or.inl ⟨by rfl, ?_⟩) ?_ ?_
  rotate_left
  · intro w'
    go_simp
    with_reducible rfl
  rotate_left
  · simp only [Act.put, List.setIfInBounds_toArray, List.set_cons_zero, List.set_cons_succ, i64_w, i32_w]
    rfl
  refine pure_ (i := 2) (N := some 13) (v := ?_) (a' := ?_) #[true, true, true, false, false, false, false, false, false] rfl rfl (by kernel_rfl) (fun _ _ _ h => h) (Or.inl ⟨by rfl, ?_⟩) ?_ ?_
  rotate_left
  · intro w'
    go_simp
    with_reducible rfl
  rotate_left
  · simp only [Act.put, List.setIfInBounds_toArray, List.set_cons_zero, List.set_cons_succ, i64_w, i32_w]
    rfl
  refine pure_ (i := 3) (N := some 14) (v := ?_) (a' := ?_) #[true, true, true, true, false, false, false, false, false] rfl rfl (by kernel_rfl) (fun _ _ _ h => h) (Or.inl ⟨by rfl, ?_⟩) ?_ ?_
  rotate_left
  · intro w'
    go_simp
    with_reducible rfl
  rotate_left
  · simp only [Act.put, List.setIfInBounds_toArray, List.set_cons_zero, List.set_cons_succ, i64_w, i32_w]
    rfl
  refine take_ (i := 4) (N := some 15) (v := ?_) (a' := ?_) #[true, true, true, true, true, false, false, false, false] rfl rfl (by kernel_rfl) (fun _ _ _ h => h) (Or.inl ⟨by rfl, ?_⟩) hHeld ?_ ?_
  rotate_left
  · rintro w' ⟨s0, s1, s2, s3⟩
    have d0_ := (blk_cell s0 0).trans (show _ = some (.map (some b1)) from rfl)
    go_simp
    with_reducible rfl
  rotate_left
  · simp only [Act.put, List.setIfInBounds_toArray, List.set_cons_zero, List.set_cons_succ, i64_w, i32_w]
    rfl
  refine take_ (i := 5) (N := some 16) (v := ?_) (a' := ?_) #[true, true, true, true, true, true, false, false, false] rfl rfl (by kernel_rfl) (fun _ _ _ h => h) (Or.inl ⟨by rfl, ?_⟩) hHeld ?_ ?_
  rotate_left
  · rintro w' ⟨s0, s1, s2, s3⟩
    refine Eq.trans (exec_seg (P := Tryd.prog) 28 (.tmp 3) rfl g 0 rfl ks (by rw [HLK.out]; exact aggK) (SegAt.blk (t := 28) (fr := (0, 0)) s1)) ?_
    with_reducible rfl
  rotate_left
  · simp only [Act.put, List.setIfInBounds_toArray, List.set_cons_zero, List.set_cons_succ, i64_w, i32_w]
    rfl
  refine take_ (i := 6) (N := some 17) (v := ?_) (a' := ?_) #[true, true, true, true, true, true, true, false, false] rfl rfl (by kernel_rfl) (fun _ _ _ h => h) (Or.inl ⟨by rfl, ?_⟩) hHeld ?_ ?_
  rotate_left
  · rintro w' ⟨s0, s1, s2, s3⟩
    refine Eq.trans (exec_look (P := Tryd.prog) 81 (.tmp 15) (.tmp 16) false rfl (.map (some b1)) (.agg ks.toArray) _ rfl rfl (HLOOK.out _ s2.c)) ?_
    with_reducible rfl
  rotate_left
  · simp only [Act.put, List.setIfInBounds_toArray, List.set_cons_zero, List.set_cons_succ, i64_w, i32_w]
    rfl
  refine one_ (i := 7) (N := some 5) #[true, true, true, true, true, true, true, true, false] rfl rfl (by kernel_rfl) (by decide) (fun K hK => ?_)
  refine box_step (by rfl) (N := 5) rfl (cs := #[.int .u8 0, .int .u8 0, .int .u8 0, .int .u8 0, .int .u8 0, .int .u8 0, .int .u8 0, .int .u8 0, .int .i64 0, .string ⟨#[]⟩]) (t := 45) ?hr ?_
  case hr => first | (go_simp; done) | (go_simp; rfl)
  intro b9 hb9 w9 hblk9 hbel9
  have HA9 := Aside0.mk hblk9
  have HG9 := Aside0.mk (And.intro (show w2.heap.size ≤ b9 from hb9 ▸ hHeld.2.2.2.size) (And.intro (show g < b9 from hb9 ▸ blk_lt hHeld.2.1) (show p < b9 from hb9 ▸ blk_lt hHeld.1)))
  clear hblk9 hb9
  refine hK.out _ _ ⟨blk_below hHeld.1 hbel9, blk_below hHeld.2.1 hbel9, hHeld.2.2.1.below hbel9, below_step hHeld.2.2.2 hbel9⟩ (fun hHeld => ?_)
  clear hK K
  refine norm_ (a' := ?_) ?_ ?_
  rotate_left
  · show Act.put _ (some 5) _ = _
    simp only [Act.put, List.setIfInBounds_toArray, List.set_cons_zero, List.set_cons_succ, i64_w, i32_w]
    rfl
  refine last_ (i := 8) (N := none) #[true, true, true, true, true, true, true, true, true] rfl rfl (by kernel_rfl) (by decide) (fun K hK => ?_)
  refine skip_row (P := Tryd.prog) (by rfl) rfl 45 (.tmp 5) (.tmp 17) rfl b9 _ 45 HA9.out ds rfl rfl (by rw [HDL.out]; exact aggC) (by rw [HDL.out]; rfl) HD1.out ?_
  intro w10 q1 q2 q3
  refine hK.out _ _ ?_
  clear hK K
  refine done_ (by kernel_rfl) ?_
  have hgb := HG9.out
  have hne : ∀ i, i < b9 → some i ≠ some b9 := fun i h e => by injection e with e; omega
  have hz := HSZ.out
  have HP10 := Aside0.mk ((q1.block p (blk_lt hHeld.1) (hne p (by omega))).trans hHeld.1)
  have HK10 := Aside0.mk ((q1.block g (blk_lt hHeld.2.1) (hne g (by omega))).trans hHeld.2.1)
  have HB10 := Aside0.mk (pw_below_grown hHeld.2.2.2 _ hHeld.2.2.2.size q1 (fun i e => by injection e with e; omega))
  have HD10 := Aside0.mk q3
  clear hHeld q1 q2 q3 hgb hne hz HA9 HP2 HK2 HLOOK
  go_upto_region 4 with (fail)
  refine start_ (n := 16) (S := fun w' => w'.heap[p]? = some (.cells (shCells b1 b2 b3 b4 lo ep (.slice Ar n cr) cm) 86 (0, 0))) (ds := []) #[false, false, false, false, false, false, false, false, false, false, false, false, false, false, false, false] (by kernel_rfl) rfl rfl (blk_below HP10.out (below_drew1 (Below.refl _ _))) (fun hHeld => ?_)
  refine pure_ (i := 0) (N := some 18) (v := ?_) (a' := ?_) #[true, false, false, false, false, false, false, false, false, false, false, false, false, false, false, false] rfl rfl (by kernel_rfl) (fun _ _ _ h => h) (Or.inl ⟨by rfl, ?_⟩) ?_ ?_
  rotate_left
  · intro w'
    go_simp
    with_reducible rfl
  rotate_left
  · simp only [Act.put, List.setIfInBounds_toArray, List.set_cons_zero, List.set_cons_succ, i64_w, i32_w]
    rfl
  refine pure_ (i := 1) (N := some 19) (v := ?_) (a' := ?_) #[true, true, false, false, false, false, false, false, false, false, false, false, false, false, false, false] rfl rfl (by kernel_rfl) (fun _ _ _ h => h) (Or.inl ⟨by rfl, ?_⟩) ?_ ?_
  rotate_left
  · intro w'
    go_simp
    with_reducible rfl
  rotate_left
  · simp only [Act.put, List.setIfInBounds_toArray, List.set_cons_zero, List.set_cons_succ, i64_w, i32_w]
    rfl
  refine pure_ (i := 2) (N := some 20) (v := ?_) (a' := ?_) #[true, true, true, false, false, false, false, false, false, false, false, false, false, false, false, false] rfl rfl (by kernel_rfl) (fun _ _ _ h => h) (Or.inl ⟨by rfl, ?_⟩) ?_ ?_
  rotate_left
  · intro w'
    go_simp
    with_reducible rfl
  rotate_left
  · simp only [Act.put, List.setIfInBounds_toArray, List.set_cons_zero, List.set_cons_succ, i64_w, i32_w]
    rfl
  refine pure_ (i := 4) (N := some 22) (v := ?_) (a' := ?_) #[true, true, true, false, true, false, false, false, false, false, false, false, false, false, false, false] rfl rfl (by kernel_rfl) (fun _ _ _ h => h) (Or.inl ⟨by rfl, ?_⟩) ?_ ?_
  rotate_left
  · intro w'
    go_simp
    with_reducible rfl
  rotate_left
  · simp only [Act.put, List.setIfInBounds_toArray, List.set_cons_zero, List.set_cons_succ, i64_w, i32_w]
    rfl
  refine pure_ (i := 5) (N := some 23) (v := ?_) (a' := ?_) #[true, true, true, false, true, true, false, false, false, false, false, false, false, false, false, false] rfl rfl (by kernel_rfl) (fun _ _ _ h => h) (Or.inl ⟨by rfl, ?_⟩) ?_ ?_
  rotate_left
  · intro w'
    go_simp
    with_reducible rfl
  rotate_left
  · simp only [Act.put, List.setIfInBounds_toArray, List.set_cons_zero, List.set_cons_succ, i64_w, i32_w]
    rfl
  refine pure_ (i := 6) (N := some 24) (v := ?_) (a' := ?_) #[true, true, true, false, true, true, true, false, false, false, false, false, false, false, false, false] rfl rfl (by kernel_rfl) (fun _ _ _ h => h) (Or.inl ⟨by rfl, ?_⟩) ?_ ?_
  rotate_left
  · intro w'
    go_simp
    with_reducible rfl
  rotate_left
  · simp only [Act.put, List.setIfInBounds_toArray, List.set_cons_zero, List.set_cons_succ, i64_w, i32_w]
    rfl
  refine pure_ (i := 8) (N := some 26) (v := ?_) (a' := ?_) #[true, true, true, false, true, true, true, false, true, false, false, false, false, false, false, false] rfl rfl (by kernel_rfl) (fun _ _ _ h => h) (Or.inl ⟨by rfl, ?_⟩) ?_ ?_
  rotate_left
  · intro w'
    go_simp
    with_reducible rfl
  rotate_left
  · simp only [Act.put, List.setIfInBounds_toArray, List.set_cons_zero, List.set_cons_succ, i64_w, i32_w]
    rfl
  refine pure_ (i := 9) (N := some 27) (v := ?_) (a' := ?_) #[true, true, true, false, true, true, true, false, true, true, false, false, false, false, false, false] rfl rfl (by kernel_rfl) (fun _ _ _ h => h) (Or.inl ⟨by rfl, ?_⟩) ?_ ?_
  rotate_left
  · intro w'
    go_simp
    with_reducible rfl
  rotate_left
  · simp only [Act.put, List.setIfInBounds_toArray, List.set_cons_zero, List.set_cons_succ, i64_w, i32_w]
    rfl
  refine pure_ (i := 10) (N := some 28) (v := ?_) (a' := ?_) #[true, true, true, false, true, true, true, false, true, true, true, false, false, false, false, false] rfl rfl (by kernel_rfl) (fun _ _ _ h => h) (Or.inl ⟨by rfl, ?_⟩) ?_ ?_
  rotate_left
  · intro w'
    go_simp
    with_reducible rfl
  rotate_left
  · simp only [Act.put, List.setIfInBounds_toArray, List.set_cons_zero, List.set_cons_succ, i64_w, i32_w]
    rfl
  refine pure_ (i := 15) (N := some 33) (v := ?_) (a' := ?_) #[true, true, true, false, true, true, true, false, true, true, true, false, false, false, false, true] rfl rfl (by kernel_rfl) (fun _ _ _ h => h) (Or.inl ⟨by rfl, ?_⟩) ?_ ?_
  rotate_left
  · intro w'
    go_simp
    with_reducible rfl
  rotate_left
  · simp only [Act.put, List.setIfInBounds_toArray, List.set_cons_zero, List.set_cons_succ, i64_w, i32_w]
    rfl
  refine take_ (i := 3) (N := some 21) (v := ?_) (a' := ?_) #[true, true, true, true, true, true, true, false, true, true, true, false, false, false, false, true] rfl rfl (by kernel_rfl) (fun _ _ _ h => h) (Or.inl ⟨by rfl, ?_⟩) hHeld ?_ ?_
  rotate_left
  · intro w' s0
    have d6_ := (blk_cell s0 6).trans (show _ = some (.slice Ar n cr) from rfl)
    go_simp
    with_reducible rfl
  rotate_left
  · simp only [Act.put, List.setIfInBounds_toArray, List.set_cons_zero, List.set_cons_succ, i64_w, i32_w]
    rfl
  refine take_ (i := 7) (N := some 25) (v := ?_) (a' := ?_) #[true, true, true, true, true, true, true, true, true, true, true, false, false, false, false, true] rfl rfl (by kernel_rfl) (fun _ _ _ h => h) (Or.inl ⟨by rfl, ?_⟩) hHeld ?_ ?_
  rotate_left
  · intro w' s0
    have d7_ := (blk_cell s0 7).trans (show _ = some (.int .i64 cm) from rfl)
    go_simp
    with_reducible rfl
  rotate_left
  · simp only [Act.put, List.setIfInBounds_toArray, List.set_cons_zero, List.set_cons_succ, i64_w, i32_w]
    rfl
  refine take_ (i := 11) (N := some 29) (v := ?_) (a' := ?_) #[true, true, true, true, true, true, true, true, true, true, true, true, false, false, false, true] rfl rfl (by kernel_rfl) (fun _ _ _ h => h) (Or.inl ⟨by rfl, ?_⟩) hHeld ?_ ?_
  rotate_left
  · intro w' s0
    have d4_ := (blk_cell s0 4).trans (show _ = some (.int .i64 lo) from rfl)
    go_simp
    with_reducible rfl
  rotate_left
  · simp only [Act.put, List.setIfInBounds_toArray, List.set_cons_zero, List.set_cons_succ, i64_w, i32_w]
    rfl
  refine pure_ (i := 12) (N := some 30) (v := ?_) (a' := ?_) #[true, true, true, true, true, true, true, true, true, true, true, true, true, false, false, true] rfl rfl (by kernel_rfl) (fun _ _ _ h => h) (Or.inl ⟨by rfl, ?_⟩) ?_ ?_
  rotate_left
  · intro w'
    go_simp
    with_reducible rfl
  rotate_left
  · simp only [Act.put, List.setIfInBounds_toArray, List.set_cons_zero, List.set_cons_succ, i64_w, i32_w]
    rfl
  refine pure_ (i := 13) (N := some 31) (v := ?_) (a' := ?_) #[true, true, true, true, true, true, true, true, true, true, true, true, true, true, false, true] rfl rfl (by kernel_rfl) (fun _ _ _ h => h) (Or.inl ⟨by rfl, ?_⟩) ?_ ?_
  rotate_left
  · intro w'
    refine Eq.trans (exec_high (.tmp 21) (.tmp 30) rfl Ar n cr m HMC.out rfl rfl) ?_
    with_reducible rfl
  rotate_left
  · simp only [Act.put, List.setIfInBounds_toArray, List.set_cons_zero, List.set_cons_succ, i64_w, i32_w]
    rfl
  refine pure_ (i := 14) (N := some 32) (v := ?_) (a' := ?_) #[true, true, true, true, true, true, true, true, true, true, true, true, true, true, true, true] rfl rfl (by kernel_rfl) (fun _ _ _ h => h) (Or.inl ⟨by rfl, ?_⟩) ?_ ?_
  rotate_left
  · intro w'
    go_simp
    with_reducible rfl
  rotate_left
  · simp only [Act.put, List.setIfInBounds_toArray, List.set_cons_zero, List.set_cons_succ, i64_w, i32_w]
    rfl
  refine done_ (by kernel_rfl) ?_
  obtain ⟨w11, hw11⟩ : ∃ w11, w10.drew = w11 := ⟨_, rfl⟩
  have hd := hw11 ▸ below_drew1 (Below.refl w10.heap.size w10)
  have HP11 := Aside0.mk (blk_below HP10.out hd)
  have HK11 := Aside0.mk (blk_below HK10.out hd)
  have HB11 := Aside0.mk (below_step HB10.out hd)
  have HD11 := Aside0.mk (blk_below HD10.out hd)
  have HZ11 := Aside0.mk (blk_below HZ2.out HB11.out)
  have HRV11 := Aside0.mk (HRV2.out.below HB11.out)
  rw [hw11]
  clear hw11 hd hHeld HP10 HK10 HB10 HD10
  go_upto_region 5 with (fail)
  go_loopw [33] (fun v33 wr => ∃ j : Nat, j ≤ m ∧ v33 = .int .i64 (j : Int) ∧ Aside0 (wr.heap[b9]? = some (.cells (encC ((s.R.take j).foldl (pickC k) (lookC s.T.cells k))).toArray 45 (0, 0))) ∧ Aside0 (Ws (fun b => b = b9) w11 wr)) (fun v33 _ => m - (intOf v33).toNat)
  case atStart => exact ⟨0, Nat.zero_le _, rfl, ⟨by rw [List.take_zero]; show _ = some (Obj.cells (encC (lookC s.T.cells k)).toArray _ _); rw [HDS.out]; exact HD11.out⟩, ⟨Ws.refl _ _⟩⟩
  case round =>
    obtain ⟨j, hj, rfl, HCb, HWs⟩ := hrel
    have HKr : Aside0 (wr.heap[g]? = some (.cells ks.toArray 28)) := ⟨(HWs.out.block g (blk_lt HK11.out) (by have := HG9.out; omega)).trans HK11.out⟩
    obtain ⟨cj, hcj⟩ : ∃ cj, (s.R.take j).foldl (pickC k) (lookC s.T.cells k) = cj := ⟨_, rfl⟩
    have hcl : cj.key.length = 8 := hcj ▸ pick_len HKL.out.len _ _ (lookC_len HKL.out.len)
    rw [hcj] at HCb
    have HCJ := Aside0.mk hcj
    have HCL : Aside0 ((encC cj).length = 10) := ⟨encC_len hcl⟩
    have HC1 := Aside0.mk (encC_one cj)
    clear hcj hcl
    by_cases e1 : j < m
    · have e1' : decide ((j : Int) < (m : Int)) = true := decide_eq_true (by omega)
      have hjl : j < s.R.length := by have := HN.out; have := HM.out; omega
      have HWJ : Aside0 (wrap64 ((j : Int) + 1) = (j : Int) + 1) := ⟨by have := HM.out; unfold wrap64; omega⟩
      have hCr := (HRV11.out.ws HWs.out (fun b hb => .inr (by have := HG9.out; omega))).c
      obtain ⟨ad, hA, hkl, hcell⟩ := C_atR hCr j hjl
      subst hA
      obtain ⟨x, hx⟩ : ∃ x, s.R[j] = x := ⟨_, rfl⟩
      rw [hx] at hkl hcell
      have hmem : x ∈ s.R := hx ▸ List.getElem_mem _
      have hkx := HKy.out.rc x hmem
      have HTK : Aside0 ((s.R.take (j + 1)).foldl (pickC k) (lookC s.T.cells k) = pickC k cj x) := ⟨by rw [pick_snoc (x := x) (by rw [List.getElem?_eq_getElem hjl, hx]), HCJ.out]⟩
      obtain ⟨xs, hxs⟩ : ∃ xs, encR x = xs := ⟨_, rfl⟩
      obtain ⟨xk, hxk⟩ : ∃ xk, encK x.key = xk := ⟨_, rfl⟩
      obtain ⟨xv, hxv⟩ : ∃ xv, x.ver = xv := ⟨_, rfl⟩
      obtain ⟨xt, hxt⟩ : ∃ xt, x.val = xt := ⟨_, rfl⟩
      have HXT := Aside0.mk (And.intro hxv hxt)
      obtain ⟨r, hr⟩ : ∃ r, decide (x.key = k) = r := ⟨_, rfl⟩
      have HE : Aside0 (∀ w : World, (Op.equalIn 10000 28 (.agg xk.toArray) (.agg ks.toArray)).run Tryd.prog w = .ok r w) := ⟨fun w => by
        have := eqK hkx HKL.out w
        rw [hr] at this
        rw [← hxk, ← HKS.out]
        exact this⟩
      have HR := Aside0.mk hr
      have HXK : Aside0 (xk.length = 8) := ⟨hxk ▸ encK_len hkl⟩
      have HCell : Aside0 (∀ q v, xs[q]? = some v → wr.cell? ((ad.add (j * 14)).add q) = some v) := ⟨hxs ▸ hcell⟩
      have HLX : Aside0 (xs.length = 14) := ⟨hxs ▸ encR_len hkl⟩
      have HX1 : Aside0 (∀ v ∈ xs, v.oneCell' = true) := ⟨hxs ▸ encR_one x⟩
      have HRA : Aside0 (∀ (w' : World) (b : Nat), w'.heap[b]? = some (.cells xs.toArray 32 (0, 0)) → SegAt w' b 2 xk ∧ w'.cell? ⟨b, 10, none⟩ = some (.int .i64 xv) ∧ w'.cell? ⟨b, 11, none⟩ = some (.string xt)) := ⟨fun w' b h => by
        have RR := recAt (f := fun i => w'.cell? ⟨b, i, none⟩) hkl (hxs ▸ blk_get h)
        exact ⟨fun q v hq => RR.key q v (hxk ▸ hq), hxv ▸ RR.ver, hxt ▸ RR.val⟩⟩
      clear hx hkl hcell hmem hkx hxs hxk hxv hxt hr hCr
      go_upto_region 7 with (first
        | ((with_reducible refine gate_dst (N := 36) rfl ?_); go_must (refine wpList_at (P := Tryd.prog) rfl 32 (.tmp 35) rfl (ad.add (j * 14)) rfl xs (by rw [HLX.out]; exact aggR) HCell.out ?_))
        | ((with_reducible refine gate_ (.store 32 (.tmp 7) (.tmp 36)) rfl ?_); go_must (refine wpList_fill (P := Tryd.prog) rfl 32 (.tmp 7) (.tmp 36) rfl xs _ rfl rfl (by rw [HLX.out]; exact aggR) (by rw [HLX.out]; rfl) HX1.out ?_)))
      obtain ⟨w12, hw12⟩ : ∃ w12, wr.alloc (.cells xs.toArray 32) = w12 := ⟨_, rfl⟩
      have hb12 : Below wr.heap.size wr w12 := hw12 ▸ below_alloc (Below.refl _ _) _
      have HA12 := Aside0.mk (show w12.heap[wr.heap.size]? = some (.cells xs.toArray 32) from hw12 ▸ at_alloc wr _)
      have HK12 := Aside0.mk (blk_below HKr.out hb12)
      have HC12 := Aside0.mk (blk_below HCb.out hb12)
      have HW12 := Aside0.mk (HWs.out.trans (Ws.of_below hb12))
      rw [hw12]
      obtain ⟨b, hbb⟩ : ∃ b, wr.heap.size = b := ⟨_, rfl⟩
      rw [hbb] at HA12 ⊢
      have HRB := Aside0.mk (HRA.out w12 b HA12.out)
      have r10 := HRB.out.2.1
      have r11 := HRB.out.2.2
      clear hw12 hb12 hbb HRA
      cases r with
      | false =>
        have hpk : pickC k cj x = cj := by unfold pickC; exact if_neg (of_decide_eq_false HR.out)
        have HPK := Aside0.mk hpk
        clear hpk
        go_wp2_with (first
          | ((with_reducible refine gate_dst (N := 38) rfl ?_); go_must (refine wpList_seg (P := Tryd.prog) rfl 28 (.tmp 37) rfl b 2 rfl xk (by rw [HXK.out]; exact aggK) HRB.out.1 ?_))
          | ((with_reducible refine gate_dst (N := 39) rfl ?_); go_must (refine wpList_seg (P := Tryd.prog) rfl 28 (.tmp 3) rfl g 0 rfl ks (by rw [HLK.out]; exact aggK) (SegAt.blk (t := 28) (fr := (0, 0)) HK12.out) ?_))
          | (rw [HE.out]; simp only [Result.andThen]; rw [Oper.upon_value]))
        rw [HWJ.out]
        exact ⟨⟨j + 1, by omega, by push_cast; rfl, ⟨by rw [HTK.out, HPK.out]; exact HC12.out⟩, HW12⟩, by simp [intOf]; omega⟩
      | true =>
        have hpk : pickC k cj x = ⟨k, xv, xt⟩ := by unfold pickC; rw [if_pos (of_decide_eq_true HR.out), HXT.out.1, HXT.out.2]
        have HPK := Aside0.mk hpk
        have HBU := Aside0.mk (builtC HKL.out.len xv xt)
        have HEL : Aside0 ((encC ⟨k, xv, xt⟩).length = 10) := ⟨encC_len HKL.out.len⟩
        have HE1 := Aside0.mk (encC_one ⟨k, xv, xt⟩)
        have HBU2 : Aside0 (Tryd.prog.built 45 [(0, .agg ks.toArray), (1, .int .i64 xv), (2, .string xt)] = some (encC ⟨k, xv, xt⟩).toArray) := ⟨HKS.out ▸ HBU.out⟩
        obtain ⟨es, hes⟩ : ∃ es, encC ⟨k, xv, xt⟩ = es := ⟨_, rfl⟩
        rw [hes] at HEL HE1 HBU2
        have HES := Aside0.mk hes
        clear hpk HBU hes
        go_wp2_with (first
          | ((with_reducible refine gate_dst (N := 38) rfl ?_); go_must (refine wpList_seg (P := Tryd.prog) rfl 28 (.tmp 37) rfl b 2 rfl xk (by rw [HXK.out]; exact aggK) HRB.out.1 ?_))
          | ((with_reducible refine gate_dst (N := 39) rfl ?_); go_must (refine wpList_seg (P := Tryd.prog) rfl 28 (.tmp 3) rfl g 0 rfl ks (by rw [HLK.out]; exact aggK) (SegAt.blk (t := 28) (fr := (0, 0)) HK12.out) ?_))
          | ((with_reducible refine gate_dst (N := 41) rfl ?_); go_must (refine wpList_seg (P := Tryd.prog) rfl 28 (.tmp 3) rfl g 0 rfl ks (by rw [HLK.out]; exact aggK) (SegAt.blk (t := 28) (fr := (0, 0)) HK12.out) ?_))
          | ((with_reducible refine gate_dst (N := 46) rfl ?_); go_must (refine wpList_built (P := Tryd.prog) rfl 45 _ rfl [(0, .agg ks.toArray), (1, .int .i64 xv), (2, .string xt)] (by simp only [List.map_toArray, List.map_cons, List.map_nil]; rfl) _ HBU2.out ?_))
          | ((with_reducible refine gate_ (.store 45 (.tmp 5) (.tmp 46)) rfl ?_); go_must (refine wpList_row (P := Tryd.prog) rfl 45 (.tmp 5) (.tmp 46) rfl b9 _ 45 HC12.out es rfl rfl (by rw [HEL.out]; exact aggC) (by rw [List.size_toArray, HCL.out, HEL.out]) HE1.out ?_); intro w13 q1 q2 q3)
          | (rw [HE.out]; simp only [Result.andThen]; rw [Oper.upon_value]))
        rw [HWJ.out]
        exact ⟨⟨j + 1, by omega, by push_cast; rfl, ⟨by rw [HTK.out, HPK.out, HES.out]; exact q3⟩, ⟨HW12.out.trans (Ws.of_grown (P := fun b => b = b9) q1 rfl)⟩⟩, by simp [intOf]; omega⟩
    · have e1' : decide ((j : Int) < (m : Int)) = false := decide_eq_false (by omega)
      have hjm : j = m := by omega
      have ho := HOut.out
      rw [← hjm, HCJ.out] at ho
      subst ho
      obtain ⟨es, hes⟩ : ∃ es, encC cj = es := ⟨_, rfl⟩
      rw [hes] at HCL HC1 HCb
      have HES := Aside0.mk hes
      have HZr : Aside0 (wr.heap[g + 1]? = some (.cells zCel.toArray 45)) := ⟨(HWs.out.block (g + 1) (blk_lt HZ11.out) (by have := HG9.out; have := HSZ.out; omega)).trans HZ11.out⟩
      clear hjm hes
      go_wp2_with (first
        | ((with_reducible refine gate_dst (N := 48) rfl ?_); go_must (refine wpList_seg (P := Tryd.prog) rfl 45 (.tmp 5) rfl b9 0 rfl es (by rw [HCL.out]; exact aggC) (SegAt.blk (t := 45) (fr := (0, 0)) HCb.out) ?_))
        | ((with_reducible refine gate_ (.store 45 (.tmp 4) (.tmp 48)) rfl ?_); go_must (refine wpList_row (P := Tryd.prog) rfl 45 (.tmp 4) (.tmp 48) rfl (g + 1) _ 45 HZr.out es rfl rfl (by rw [HCL.out]; exact aggC) (by rw [HCL.out]; rfl) HC1.out ?_); intro w13 q1 q2 q3))
      refine bodyPost_ret (results_c rfl _ _ (g + 1) 45 es.toArray (0, 0) _ (by rfl) q3 Tryd.underlying45 rfl (by rw [List.size_toArray, HCL.out]; kernel_rfl)) rfl ?_
      have hz := HSZ.out
      have hb := HG9.out
      have h11 : Below w.heap.size w w11 := below_then HB2.out HB2.out.size HB11.out
      have hr : Below w.heap.size w wr := HWs.out.below h11 (fun b hb => by omega)
      exact ⟨by rw [HES.out], pw_below_grown hr _ hr.size q1 (fun k e => by injection e with e; omega)⟩
end
end Go.Proofs.YtgmaedngkhidlaaDoor.Sf
-- SgI
namespace Go.Proofs.YtgmaedngkhidlaaDoor.Sf
open Go Go.RowKit Go.ChangeMaps Go.MapKept Go.Proofs.YtgmaedngkhidlaaDoorW.PrintWords Go.Proofs.YtgmaedngkhidlaaDoorW.PrintLast Go.Proofs.YtgmaedngkhidlaaDoorW.PrintMore
open Go.Maps (Keyed)
set_option linter.unusedVariables false
set_option linter.unusedSimpArgs false
abbrev kQ : Kd Dq := flat encQ 29 encQ_one
theorem C_atQ {A : Option Addr} {n : Nat} {R : List Dq} {w : World} (h : kQ.C w A n R) (hk : ∀ x ∈ R, x.key.length = 8) (i : Nat) (hi : i < R.length) : ∃ ad, A = some ad ∧ DoAt (fun j => w.cell? ((ad.add (i * 29)).add j)) R[i] := by
  obtain ⟨hn, _, hc0⟩ := h
  obtain ⟨ad, rfl, hc1⟩ := hc0 (by omega)
  obtain ⟨cs, hl, ⟨he, hl2⟩, hcc⟩ := hc1 i R[i] (List.getElem?_eq_getElem hi)
  refine ⟨ad, rfl, doAt (hk _ (List.getElem_mem hi)) fun j v hj => ?_⟩
  rw [add_add]
  exact hcc j v (by rw [he]; exact hj)
end Go.Proofs.YtgmaedngkhidlaaDoor.Sf
