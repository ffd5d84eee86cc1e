/- Texts that the row of LawShelfNobody rests on, part 4 of 6: contracts of the functions, their walks, plain laws. -/
import Derived.Test.YtgmaedngkhidlaaDoorBnShelfNobody3
import Derived.Deep.AppendSrc
import Derived.Lib.SliceRun
set_option linter.unusedSimpArgs false
-- SgR
namespace Go.Proofs.YtgmaedngkhidlaaDoor.Sf
open Go Go.RowKit Go.ChangeMaps Go.MapKept Go.Proofs.YtgmaedngkhidlaaDoorW.PrintWords Go.Proofs.YtgmaedngkhidlaaDoorW.PrintLast Go.Proofs.YtgmaedngkhidlaaDoorW.PrintMore
open Go.Maps (Keyed)
set_option linter.unusedVariables false
set_option linter.unusedSimpArgs false
def flatR (R : List Rc) : List Value := (R.map encR).flatten
theorem flatR_len : ∀ {R : List Rc}, (∀ x ∈ R, x.key.length = 8) → (flatR R).length = R.length * 14
  | [], _ => rfl
  | x :: R, h => by
    unfold flatR
    rw [List.map_cons, List.flatten_cons, List.length_append, encR_len (h x (List.mem_cons_self ..))]
    have := flatR_len (R := R) fun y hy => h y (List.mem_cons_of_mem _ hy)
    unfold flatR at this
    rw [this, List.length_cons]
    omega
theorem flatR_get : ∀ {R : List Rc}, (∀ x ∈ R, x.key.length = 8) → ∀ {j : Nat} {p : Rc}, R[j]? = some p → ∀ {i : Nat} {u : Value}, (encR p)[i]? = some u → (flatR R)[j * 14 + i]? = some u
  | [], _, j, p, hj, _, _, _ => by simp at hj
  | x :: R, h, j, p, hj, i, u, hu => by
    have hl := encR_len (h x (List.mem_cons_self ..))
    have hs : flatR (x :: R) = encR x ++ flatR R := by unfold flatR; rw [List.map_cons, List.flatten_cons]
    rw [hs]
    cases j with
    | zero =>
      simp at hj
      subst hj
      have hi := (List.getElem?_eq_some_iff.1 hu).1
      rw [Nat.zero_mul, Nat.zero_add, List.getElem?_append_left hi]
      exact hu
    | succ j =>
      rw [List.getElem?_append_right (by rw [hl]; omega), hl, show (j + 1) * 14 + i - 14 = j * 14 + i by omega]
      exact flatR_get (fun y hy => h y (List.mem_cons_of_mem _ hy)) (by simpa using hj) hu
theorem flatR_append (R S : List Rc) : flatR (R ++ S) = flatR R ++ flatR S := by unfold flatR; rw [List.map_append, List.flatten_append]
theorem keys_of {w : World} {A : Option Addr} {n : Nat} {R : List Rc} (h : kR.C w A n R) : ∀ x ∈ R, x.key.length = 8 := by
  intro x hx
  obtain ⟨i, hi, rfl⟩ := List.mem_iff_getElem.1 hx
  exact (R_at h i hi).choose_spec.2.1
theorem row_cells {w : World} {ad : Addr} {n : Nat} {R : List Rc} (h : kR.C w (some ad) n R) : ∀ j v, (flatR R)[j]? = some v → w.cell? (ad.add j) = some v := by
  intro j v hj
  have hk := keys_of h
  have hl := flatR_len hk
  have hlt := (List.getElem?_eq_some_iff.1 hj).1
  have hq : j / 14 < R.length := by omega
  have hm : j % 14 < 14 := Nat.mod_lt _ (by decide)
  have he : j = j / 14 * 14 + j % 14 := by omega
  have hel : (encR R[j / 14]).length = 14 := encR_len (hk _ (List.getElem_mem hq))
  have hg := flatR_get hk (List.getElem?_eq_getElem hq) (List.getElem?_eq_getElem (show j % 14 < (encR R[j / 14]).length by omega))
  rw [← he, hj] at hg
  obtain ⟨ad', e, _, hc⟩ := R_at h (j / 14) hq
  injection e with e
  subst e
  have := hc (j % 14) _ (List.getElem?_eq_getElem (by omega))
  rw [add_add, ← he] at this
  rw [this, hg]
theorem rv_block {G : Nat → Prop} {w : World} {g c : Nat} {t : TypeId} {cells : Array Value} {R : List Rc} (hb : w.heap[g]? = some (.cells cells t (0, 0))) (hg : ¬ G g) (hk : ∀ x ∈ R, x.key.length = 8) (hp : ∀ (j : Nat) (v : Value), (flatR R)[j]? = some v → cells[j]? = some v) (hc : R.length ≤ c) (hm : R.length ≤ 9223372036854775807) : RV G w (.slice (some ⟨g, 0, none⟩) R.length c) R := by
  refine Kd.V_mk hc fun W' hW => ?_
  have hb' := (hW g hg (blk_lt hb)).trans hb
  refine ⟨rfl, hm, fun _ => ⟨⟨g, 0, none⟩, rfl, fun j p hj => ⟨encR p, encR_len (hk p (List.mem_of_getElem? hj)), ⟨rfl, encR_len (hk p (List.mem_of_getElem? hj))⟩, fun i u hu => ?_⟩⟩⟩
  rw [add_off, cell_of_row W' g _ _ t (0, 0) hb', Nat.zero_add]
  exact hp _ _ (flatR_get hk hj hu)
theorem append_rec {G : Nat → Prop} {w : World} {A : Option Addr} {R : List Rc} {x : Rc} {a : Nat} (hC : kR.C w A R.length R) (hl : R.length ≤ 24) (hk : x.key.length = 8) (ha : w.heap[a]? = some (.cells (encR x).toArray 32 (0, 0))) (hG : ¬ G w.heap.size) (ty : TypeId) :
    ∃ v w', (Builtin.append_ #[47, 47] ty #[.slice A R.length R.length, .slice (some ⟨a, 0, none⟩) 1 1]).run Tryd.prog w = .ok v w' ∧ Below w.heap.size w w' ∧ RV G w' v (R ++ [x]) := by
  have hks := keys_of hC
  have hfl := flatR_len hks
  have ht : Tryd.prog.underlying 47 = some (.slice 32) := by kernel_rfl
  have hsz := aggR.size
  have hby : (Tryd.prog.info? 32).map (·.bytes) = some 64 := by kernel_rfl
  have hz0 : (Tryd.prog.info? 32).bind (·.zero) = some (.agg zRow.toArray) := by kernel_rfl
  cases hi : Tryd.prog.info? 32 with
  | none => rw [hi] at hsz; cases hsz
  | some i =>
    rw [hi] at hsz hby hz0
    have hs : i.size = 14 := by simpa using hsz
    have hy : i.bytes = 64 := by simpa using hby
    have hz : i.zero = some (.agg zRow.toArray) := by simpa using hz0
    have hold : (Builtin.firstCells i.size R.length (.slice A R.length R.length)).run Tryd.prog w.drew = .ok (flatR R).toArray w.drew := by
      cases A with
      | none =>
        have h0 : R = [] := by
          cases R with
          | nil => rfl
          | cons y r => obtain ⟨ad, e, _⟩ := hC.2.2 (by simp); cases e
        subst h0
        exact run_firstCells_none w.drew _ _ _ _
      | some ad => exact run_firstCells_some w.drew i.size R.length ad R.length R.length (flatR R) (by rw [hfl, hs]) (fun j v hj => by simpa using row_cells hC j v hj)
    have hsrc := Src.ofSlice (P := Tryd.prog) w (size := i.size) ht ⟨a, 0, none⟩ 1 1 (encR x) (by rw [encR_len hk, hs]) (fun j u hj => by rw [add_off, Nat.zero_add]; exact blk_get ha j u hj) (encR_one x)
    have hnx := nextslicecap_le (show R.length < R.length + 1 by omega)
    have hrun := run_append_grow_src (P := Tryd.prog) w 47 47 ty 32 i (.agg zRow.toArray) ht hi hz A R.length R.length (flatR R) hold _ 1 (encR x) hsrc (by omega) (by omega) (by rw [hy]; omega)
    refine ⟨_, _, hrun, ?_, ?_⟩
    · exact below_then (below_drew1 (Below.refl _ _)) (Nat.le_refl _) (below_alloc (Below.refl _ _) _)
    · have hc := grownCap_ge w (R.length + 1) R.length 32
      have hlen : (R ++ [x]).length = R.length + 1 := by simp
      have := rv_block (G := G) (c := grownCap w (R.length + 1) R.length 32) (R := R ++ [x]) (at_alloc w.drew (.cells ((flatR R ++ encR x).toArray ++ Builtin.zeroCells (Value.agg zRow.toArray).cells (grownCap w (R.length + 1) R.length 32 - (R.length + 1))) 32 (0, 0))) hG (fun y hy => by
        rcases List.mem_append.1 hy with hy | hy
        · exact hks y hy
        · simp at hy; rw [hy]; exact hk) (fun j v hj => by
        rw [flatR_append] at hj
        have e1 : flatR [x] = encR x := by unfold flatR; simp
        rw [e1] at hj
        have hjl := (List.getElem?_eq_some_iff.1 hj).1
        rw [Array.getElem?_append_left (by simpa using hjl), List.getElem?_toArray]
        exact hj) (by rw [hlen]; exact hc) (by rw [hlen]; omega)
      rw [hlen] at this
      exact this
end Go.Proofs.YtgmaedngkhidlaaDoor.Sf
-- SgC
namespace Go.Proofs.YtgmaedngkhidlaaDoor.Sf
open Go Go.RowKit Go.ChangeMaps Go.MapKept Go.Proofs.YtgmaedngkhidlaaDoorW.PrintWords Go.Proofs.YtgmaedngkhidlaaDoorW.PrintLast Go.Proofs.YtgmaedngkhidlaaDoorW.PrintMore
open Go.Maps (Keyed)
set_option linter.unusedVariables false
set_option linter.unusedSimpArgs false
theorem add_zero' (a : Addr) : a.add 0 = a := by unfold Addr.add; split <;> simp_all
theorem slice_full (w : World) (A : Option Addr) (n c : Nat) (hc : n ≤ c) : (Instr.sliceAt 47 (.slice A n c) none (some (.int .i64 (n : Int))) (some (.int .i64 (n : Int)))).run Tryd.prog w = .ok (.slice A n n) w := by
  have ht : Tryd.prog.underlying 47 = some (.slice (Tryd.prog.elem 47)) := by kernel_rfl
  rw [run_sliceAt_slice w 47 _ _ _ _ ht]
  rw [run_slice_hm w 47 A n c ht .i64 .i64 (n : Int) (n : Int) (by omega) (by omega) (by omega)]
  have hs : (sizeOf (Tryd.prog.elem 47)).run Tryd.prog w = .ok 14 w := by kernel_rfl
  rw [hs]
  cases A <;> simp [Result.andThen, sliced, add_zero']
theorem seg_two {w : World} {g f : Nat} {u v : Value} (h0 : w.cell? ⟨g, f, none⟩ = some u) (h1 : w.cell? ⟨g, f + 1, none⟩ = some v) : SegAt w g f [u, v] := fun j x hj => by
  rcases j with _ | _ | j
  · simp at hj; subst hj; exact h0
  · simp at hj; subst hj; exact h1
  · simp at hj
theorem len14 : ∀ {k : List Value}, k.length = 14 → ∃ a0 a1 a2 a3 a4 a5 a6 a7 a8 a9 b0 b1 b2 b3, k = [a0, a1, a2, a3, a4, a5, a6, a7, a8, a9, b0, b1, b2, b3]
  | [a0, a1, a2, a3, a4, a5, a6, a7, a8, a9, b0, b1, b2, b3], _ => ⟨a0, a1, a2, a3, a4, a5, a6, a7, a8, a9, b0, b1, b2, b3, rfl⟩
theorem lit_rec (w : World) {xs : List Value} (hx : xs.length = 14) : (Instr.buildSlice 47 1 #[(0, .agg xs.toArray)]).run Tryd.prog w = .ok (.slice (some ⟨w.heap.size, 0, none⟩) 1 1) (w.alloc (.cells xs.toArray 32 (0, 0))) := by
  obtain ⟨a0, a1, a2, a3, a4, a5, a6, a7, a8, a9, b0, b1, b2, b3, rfl⟩ := len14 hx
  kernel_rfl
section
variable {o : Oper} {a : Act} {w : World} {ops : Array Oper} {Q : Exit → Act → World → Prop} {K : Act → World → Prop}
theorem exec_full (x hi mx : Operand) (ho : o.op = .slice 47 x none (some hi) (some mx)) (A : Option Addr) (n c : Nat) (hc : n ≤ c) (hx : a.eval x = .slice A n c) (hh : a.eval hi = .int .i64 (n : Int)) (hm : a.eval mx = .int .i64 (n : Int)) : (execOp a.eval o).run Tryd.prog w = .ok (.value (.slice A n n)) w := by
  unfold execOp
  simp only [ho, hx, hh, hm, Option.map, slice_full w A n c hc, Sem.run_bind, Sem.run_pure, Result.andThen_ok]
theorem lit_step (hw : Region.wanted o (yielded ops a.tmps) = true) {N : Tmp} (hN : o.dst = some N) (y : Operand) (ho : o.op = .buildSlice 47 1 #[(0, y)]) (xs : List Value) (hx : xs.length = 14) (hy : a.eval y = .agg xs.toArray)
    (h : ∀ a1 w1, a1 = w.heap.size → w1.heap[a1]? = some (.cells xs.toArray 32 (0, 0)) → Below w.heap.size w w1 → K (a.put (some N) (.slice (some ⟨a1, 0, none⟩) 1 1)) w1) : if Region.wanted o (yielded ops a.tmps) = true then Oper.wp Tryd.prog o a w K Q else K (a.put (some N) undef) w := by
  refine value_ hw hN (v := .slice (some ⟨w.heap.size, 0, none⟩) 1 1) (w1 := w.alloc (.cells xs.toArray 32 (0, 0))) ?_ (h _ _ rfl (at_alloc w _) (below_alloc (Below.refl _ _) _))
  unfold execOp
  have := lit_rec w hx
  simp only [ho, hy, List.map_toArray, List.map_cons, List.map_nil, this, Sem.run_bind, Sem.run_pure, Result.andThen_ok]
theorem app_step {G : Nat → Prop} (hw : Region.wanted o (yielded ops a.tmps) = true) {N : Tmp} (hN : o.dst = some N) (y z : Operand) (ho : o.op = .call { callee := .builtin .append, args := #[y, z], argTypes := #[47, 47] }) (A : Option Addr) (R : List Rc) (x : Rc) (b : Nat)
    (hy : a.eval y = .slice A R.length R.length) (hz : a.eval z = .slice (some ⟨b, 0, none⟩) 1 1) (hC : kR.C w A R.length R) (hl : R.length ≤ 24) (hk : x.key.length = 8) (ha : w.heap[b]? = some (.cells (encR x).toArray 32 (0, 0))) (hG : ¬ G w.heap.size)
    (h : ∀ v w1, Below w.heap.size w w1 → RV G w1 v (R ++ [x]) → K (a.put (some N) v) w1) : if Region.wanted o (yielded ops a.tmps) = true then Oper.wp Tryd.prog o a w K Q else K (a.put (some N) undef) w := by
  obtain ⟨v, w1, hr, hb, hrv⟩ := append_rec (G := G) hC hl hk ha hG o.type
  refine value_ hw hN (v := v) (w1 := w1) ?_ (h v w1 hb hrv)
  unfold execOp
  simp only [ho, resolve, invoke, builtin, Sem.run_bind, Sem.run_pure, Result.andThen_ok, List.map_toArray, List.map_cons, List.map_nil, hy, hz, hr]
end
section
variable {F G : Nat → Prop} {p : Nat} {s : Sh}
set_option maxHeartbeats 8000000 in
set_option maxRecDepth 100000 in
theorem Add_calls (x : Rc) (w : World) (h : IsS F G w p s) (hGb : ∀ k, G k → k < w.heap.size) (hw : Wf s) (hk : KeyL x.key) (hv : x.val.size ≤ 9223372036854775807) (hcl : (Lit.int .i64 x.client).wf = true) (hT : Tabs w) :
    Calls Tryd.prog 21 #[.pointer (some ⟨p, 0, none⟩), vR x] w fun e w' => e = .returned (.int .i64 (addP s x).2) ∧ Ws F w w' ∧ IsS F G w' p (addP s x).1 := by
  obtain ⟨xs, hxs⟩ : ∃ xs, encR x = xs := ⟨_, rfl⟩
  change Calls Tryd.prog 21 #[.pointer (some ⟨p, 0, none⟩), .agg (encR x).toArray] w _
  have hxl := encR_len hk.len
  have hx1 := encR_one x
  rw [hxs] at hxl hx1
  obtain ⟨out, hout⟩ : ∃ out, addP s x = out := ⟨_, rfl⟩
  rw [hout]
  unfold addP at hout
  obtain ⟨m, hm⟩ : ∃ m, mayP (lastT s) x = m := ⟨_, rfl⟩
  rw [hm] at hout
  have HMAY : Aside0 (∀ w' : World, IsS F G w' p s → Tabs w' → Calls Tryd.prog 53 #[.pointer (some ⟨p, 0, none⟩), .agg xs.toArray] w' fun e w'' => e = .returned (.int .i64 m) ∧ Below w'.heap.size w' w'') := ⟨fun w' h' hT' => hxs ▸ hm ▸ may_calls x w' h' hw hk hv hcl hT'⟩
  rw [hxs]
  obtain ⟨g, hg⟩ : ∃ g, w.heap.size = g := ⟨_, rfl⟩
  obtain ⟨w1, hw1⟩ : ∃ w1, w.alloc (.cells xs.toArray 32) = w1 := ⟨_, rfl⟩
  have hb1 : Below w.heap.size w w1 := hw1 ▸ below_alloc (Below.refl _ _) _
  have hX1 : w1.heap[g]? = some (.cells xs.toArray 32) := hg ▸ hw1 ▸ at_alloc w _
  have h1 := h.below hb1
  have HH1 := Aside0.mk h1
  have HX1 := Aside0.mk hX1
  have HB1 := Aside0.mk hb1
  have HM1 := Aside0.mk (HMAY.out w1 h1 (hT.below hb1))
  have HOut := Aside0.mk hout
  have HW1 := Aside0.mk hw1
  have HH0 := Aside0.mk h
  have HWf := Aside0.mk hw
  have HXL := Aside0.mk hxl
  have HXO := Aside0.mk hx1
  have HXS := Aside0.mk hxs
  have HK := Aside0.mk hk
  have HCL := Aside0.mk hcl
  have HGB := Aside0.mk hGb
  have HGS := Aside0.mk hg
  clear hxl hx1 hout hw1 hb1 hX1 h1 h hGb hw hk hv hcl hT hxs hm HMAY
  go_enter Tryd.func21, Tryd.ntmps21
  go_upto_region 1 with (fail)
  rw [HW1.out]
  go_upto_region 4 with (first
    | (go_at_call 51; refine (dead_calls HH1.out).mono ?_; rintro e w' ⟨rfl, rfl⟩)
    | ((with_reducible refine gate_dst (N := 9) rfl ?_); go_must (refine wpList_seg (P := Tryd.prog) rfl 32 (.tmp 3) rfl g 0 rfl xs (by rw [HXL.out]; exact aggR) (SegAt.blk (t := 32) (fr := (0, 0)) HX1.out) ?_))
    | (go_at_call 53; refine HM1.out.mono ?_; rintro e w2 ⟨rfl, hb2⟩))
  have HB2 := Aside0.mk (below_then HB1.out HB1.out.size hb2)
  have HX2 := Aside0.mk (blk_below HX1.out hb2)
  clear hb2 HB1 HX1 HM1 HH1
  by_cases cm : m = 0
  · have ho := HOut.out
    rw [if_neg (fun h => h cm)] at ho
    subst cm
    have HO2 := Aside0.mk ho
    clear ho HOut
    obtain ⟨b1, b2, b3, b4, rv, hp0, hf0, hn0, hs1, hs2, hrv⟩ := HH0.out.ex
    obtain ⟨Ar, cr, rfl, hcr, hCr⟩ := hrv.slice
    have HP2 := Aside0.mk (blk_below hp0 HB2.out)
    have c6 : w2.cell? ⟨p, 6, none⟩ = some (.slice Ar s.R.length cr) := (blk_cell HP2.out 6).trans rfl
    have HCR := Aside0.mk hcr
    have HC2 := Aside0.mk (Kd.C_below hCr HB2.out)
    have HS1 := Aside0.mk hs1
    have HS2 := Aside0.mk hs2
    have HF0 := Aside0.mk hf0
    have HN0 := Aside0.mk hn0
    have HPB := Aside0.mk (And.intro (IsMap.ne_cells hs1.c hp0) (And.intro (IsMap.ne_cells hs1.d hp0) (And.intro (IsMap.ne_cells hs2.c hp0) (IsMap.ne_cells hs2.d hp0))))
    have hlen := HWf.out.len
    clear hp0 hf0 hn0 hs1 hs2 hrv hcr hCr
    by_cases c24 : 24 ≤ s.R.length
    · have d1 : decide ((s.R.length : Int) ≥ 24) = true := decide_eq_true (by omega)
      have d2 : decide ((24 : Int) ≤ (s.R.length : Int)) = true := decide_eq_true (by omega)
      have ho := HO2.out
      rw [if_pos c24] at ho
      subst ho
      clear hlen
      go_wp2_with (fail)
      go_ret
      exact ⟨rfl, Ws.of_below (hg ▸ HB2.out), HH0.out.below (hg ▸ HB2.out)⟩
    · have d1 : decide ((s.R.length : Int) ≥ 24) = false := decide_eq_false (by omega)
      have d2 : decide ((24 : Int) ≤ (s.R.length : Int)) = false := decide_eq_false (by omega)
      have ho := HO2.out
      rw [if_neg c24] at ho
      subst ho
      have HLE := Aside0.mk hlen
      clear c24 hlen
      go_upto_region 8 with (fail)
      refine start_ (n := 22) (S := fun w' => w'.heap[p]? = some (.cells (shCells b1 b2 b3 b4 s.T.idx s.T.epoch (.slice Ar s.R.length cr) s.C) 86 (0, 0)) ∧ w'.heap[g]? = some (.cells xs.toArray 32 (0, 0)) ∧ kR.C w' Ar s.R.length s.R ∧ Below w.heap.size w w') (ds := [21]) #[false, false, false, false, false, false, false, false, false, false, false, false, false, false, false, false, false, false, false, false, false, false] (by kernel_rfl) rfl rfl ⟨HP2.out, HX2.out, Kd.C_below HC2.out (below_drew1 (Below.refl _ _)), below_drew1 HB2.out⟩ (fun hHeld => ?_)
      refine pure_ (i := 0) (N := some 20) (v := ?_) (a' := ?_) #[true, false, false, false, false, false, false, false, false, false, false, false, false, false, false, false, false, false, false, false, false, false] rfl rfl (by kernel_rfl) (fun _ _ _ h => h) (Or.inl ⟨by rfl, ?_⟩) ?_ ?_
      rotate_left
      · intro w'
        go_simp
        with_reducible rfl
      rotate_left
      · simp only [Act.put, List.setIfInBounds_toArray, List.set_cons_zero, List.set_cons_succ, i64_w, i32_w]
        rfl
      refine pure_ (i := 1) (N := some 21) (v := ?_) (a' := ?_) #[true, true, false, false, false, false, false, false, false, false, false, false, false, false, false, false, false, false, false, false, false, false] rfl rfl (by kernel_rfl) (fun _ _ _ h => h) (Or.inl ⟨by rfl, ?_⟩) ?_ ?_
      rotate_left
      · intro w'
        go_simp
        with_reducible rfl
      rotate_left
      · simp only [Act.put, List.setIfInBounds_toArray, List.set_cons_zero, List.set_cons_succ, i64_w, i32_w]
        rfl
      refine pure_ (i := 2) (N := some 22) (v := ?_) (a' := ?_) #[true, true, true, false, false, false, false, false, false, false, false, false, false, false, false, false, false, false, false, false, false, false] rfl rfl (by kernel_rfl) (fun _ _ _ h => h) (Or.inl ⟨by rfl, ?_⟩) ?_ ?_
      rotate_left
      · intro w'
        go_simp
        with_reducible rfl
      rotate_left
      · simp only [Act.put, List.setIfInBounds_toArray, List.set_cons_zero, List.set_cons_succ, i64_w, i32_w]
        rfl
      refine pure_ (i := 3) (N := some 23) (v := ?_) (a' := ?_) #[true, true, true, true, false, false, false, false, false, false, false, false, false, false, false, false, false, false, false, false, false, false] rfl rfl (by kernel_rfl) (fun _ _ _ h => h) (Or.inl ⟨by rfl, ?_⟩) ?_ ?_
      rotate_left
      · intro w'
        go_simp
        with_reducible rfl
      rotate_left
      · simp only [Act.put, List.setIfInBounds_toArray, List.set_cons_zero, List.set_cons_succ, i64_w, i32_w]
        rfl
      refine pure_ (i := 5) (N := some 25) (v := ?_) (a' := ?_) #[true, true, true, true, false, true, false, false, false, false, false, false, false, false, false, false, false, false, false, false, false, false] rfl rfl (by kernel_rfl) (fun _ _ _ h => h) (Or.inl ⟨by rfl, ?_⟩) ?_ ?_
      rotate_left
      · intro w'
        go_simp
        with_reducible rfl
      rotate_left
      · simp only [Act.put, List.setIfInBounds_toArray, List.set_cons_zero, List.set_cons_succ, i64_w, i32_w]
        rfl
      refine pure_ (i := 6) (N := some 26) (v := ?_) (a' := ?_) #[true, true, true, true, false, true, true, false, false, false, false, false, false, false, false, false, false, false, false, false, false, false] rfl rfl (by kernel_rfl) (fun _ _ _ h => h) (Or.inl ⟨by rfl, ?_⟩) ?_ ?_
      rotate_left
      · intro w'
        go_simp
        with_reducible rfl
      rotate_left
      · simp only [Act.put, List.setIfInBounds_toArray, List.set_cons_zero, List.set_cons_succ, i64_w, i32_w]
        rfl
      refine pure_ (i := 7) (N := some 27) (v := ?_) (a' := ?_) #[true, true, true, true, false, true, true, true, false, false, false, false, false, false, false, false, false, false, false, false, false, false] rfl rfl (by kernel_rfl) (fun _ _ _ h => h) (Or.inl ⟨by rfl, ?_⟩) ?_ ?_
      rotate_left
      · intro w'
        go_simp
        with_reducible rfl
      rotate_left
      · simp only [Act.put, List.setIfInBounds_toArray, List.set_cons_zero, List.set_cons_succ, i64_w, i32_w]
        rfl
      refine pure_ (i := 10) (N := some 30) (v := ?_) (a' := ?_) #[true, true, true, true, false, true, true, true, false, false, true, false, false, false, false, false, false, false, false, false, false, false] rfl rfl (by kernel_rfl) (fun _ _ _ h => h) (Or.inl ⟨by rfl, ?_⟩) ?_ ?_
      rotate_left
      · intro w'
        go_simp
        with_reducible rfl
      rotate_left
      · simp only [Act.put, List.setIfInBounds_toArray, List.set_cons_zero, List.set_cons_succ, i64_w, i32_w]
        rfl
      refine pure_ (i := 11) (N := some 31) (v := ?_) (a' := ?_) #[true, true, true, true, false, true, true, true, false, false, true, true, false, false, false, false, false, false, false, false, false, false] rfl rfl (by kernel_rfl) (fun _ _ _ h => h) (Or.inl ⟨by rfl, ?_⟩) ?_ ?_
      rotate_left
      · intro w'
        go_simp
        with_reducible rfl
      rotate_left
      · simp only [Act.put, List.setIfInBounds_toArray, List.set_cons_zero, List.set_cons_succ, i64_w, i32_w]
        rfl
      refine pure_ (i := 12) (N := some 32) (v := ?_) (a' := ?_) #[true, true, true, true, false, true, true, true, false, false, true, true, true, false, false, false, false, false, false, false, false, false] rfl rfl (by kernel_rfl) (fun _ _ _ h => h) (Or.inl ⟨by rfl, ?_⟩) ?_ ?_
      rotate_left
      · intro w'
        go_simp
        with_reducible rfl
      rotate_left
      · simp only [Act.put, List.setIfInBounds_toArray, List.set_cons_zero, List.set_cons_succ, i64_w, i32_w]
        rfl
      refine take_ (i := 4) (N := some 24) (v := ?_) (a' := ?_) #[true, true, true, true, true, true, true, true, false, false, true, true, true, false, false, false, false, false, false, false, false, false] rfl rfl (by kernel_rfl) (fun _ _ _ h => h) (Or.inl ⟨by rfl, ?_⟩) hHeld ?_ ?_
      rotate_left
      · rintro w' ⟨s0, s1, s2, s3⟩
        have d6_ := (blk_cell s0 6).trans (show _ = some (.slice Ar s.R.length cr) from rfl)
        go_simp
        with_reducible rfl
      rotate_left
      · simp only [Act.put, List.setIfInBounds_toArray, List.set_cons_zero, List.set_cons_succ, i64_w, i32_w]
        rfl
      refine take_ (i := 8) (N := some 28) (v := ?_) (a' := ?_) #[true, true, true, true, true, true, true, true, true, false, true, true, true, false, false, false, false, false, false, false, false, false] rfl rfl (by kernel_rfl) (fun _ _ _ h => h) (Or.inl ⟨by rfl, ?_⟩) hHeld ?_ ?_
      rotate_left
      · rintro w' ⟨s0, s1, s2, s3⟩
        have d6_ := (blk_cell s0 6).trans (show _ = some (.slice Ar s.R.length cr) from rfl)
        go_simp
        with_reducible rfl
      rotate_left
      · simp only [Act.put, List.setIfInBounds_toArray, List.set_cons_zero, List.set_cons_succ, i64_w, i32_w]
        rfl
      refine pure_ (i := 9) (N := some 29) (v := ?_) (a' := ?_) #[true, true, true, true, true, true, true, true, true, true, true, true, true, false, false, false, false, false, false, false, false, false] rfl rfl (by kernel_rfl) (fun _ _ _ h => h) (Or.inl ⟨by rfl, ?_⟩) ?_ ?_
      rotate_left
      · intro w'
        go_simp
        with_reducible rfl
      rotate_left
      · simp only [Act.put, List.setIfInBounds_toArray, List.set_cons_zero, List.set_cons_succ, i64_w, i32_w]
        rfl
      refine take_ (i := 13) (N := some 33) (v := ?_) (a' := ?_) #[true, true, true, true, true, true, true, true, true, true, true, true, true, true, false, false, false, false, false, false, false, false] rfl rfl (by kernel_rfl) (fun _ _ _ h => h) (Or.inl ⟨by rfl, ?_⟩) hHeld ?_ ?_
      rotate_left
      · rintro w' ⟨s0, s1, s2, s3⟩
        have d6_ := (blk_cell s0 6).trans (show _ = some (.slice Ar s.R.length cr) from rfl)
        go_simp
        with_reducible rfl
      rotate_left
      · simp only [Act.put, List.setIfInBounds_toArray, List.set_cons_zero, List.set_cons_succ, i64_w, i32_w]
        rfl
      refine pure_ (i := 14) (N := some 34) (v := ?_) (a' := ?_) #[true, true, true, true, true, true, true, true, true, true, true, true, true, true, true, false, false, false, false, false, false, false] rfl rfl (by kernel_rfl) (fun _ _ _ h => h) (Or.inl ⟨by rfl, ?_⟩) ?_ ?_
      rotate_left
      · intro w'
        go_simp
        with_reducible rfl
      rotate_left
      · simp only [Act.put, List.setIfInBounds_toArray, List.set_cons_zero, List.set_cons_succ, i64_w, i32_w]
        rfl
      refine pure_ (i := 15) (N := some 35) (v := ?_) (a' := ?_) #[true, true, true, true, true, true, true, true, true, true, true, true, true, true, true, true, false, false, false, false, false, false] rfl rfl (by kernel_rfl) (fun _ _ _ h => h) (Or.inl ⟨by rfl, ?_⟩) ?_ ?_
      rotate_left
      · intro w'
        refine Eq.trans (exec_full (.tmp 24) (.tmp 29) (.tmp 34) rfl Ar s.R.length cr HCR.out rfl rfl rfl) ?_
        with_reducible rfl
      rotate_left
      · simp only [Act.put, List.setIfInBounds_toArray, List.set_cons_zero, List.set_cons_succ, i64_w, i32_w]
        rfl
      refine take_ (i := 16) (N := some 36) (v := ?_) (a' := ?_) #[true, true, true, true, true, true, true, true, true, true, true, true, true, true, true, true, true, false, false, false, false, false] rfl rfl (by kernel_rfl) (fun _ _ _ h => h) (Or.inl ⟨by rfl, ?_⟩) hHeld ?_ ?_
      rotate_left
      · rintro w' ⟨s0, s1, s2, s3⟩
        refine Eq.trans (exec_seg (P := Tryd.prog) 32 (.tmp 3) rfl g 0 rfl xs (by rw [HXL.out]; exact aggR) (SegAt.blk (t := 32) (fr := (0, 0)) s1)) ?_
        with_reducible rfl
      rotate_left
      · simp only [Act.put, List.setIfInBounds_toArray, List.set_cons_zero, List.set_cons_succ, i64_w, i32_w]
        rfl
      refine one_ (i := 17) (N := some 37) #[true, true, true, true, true, true, true, true, true, true, true, true, true, true, true, true, true, true, false, false, false, false] rfl rfl (by kernel_rfl) (by decide) (fun K hK => ?_)
      refine lit_step (by rfl) (N := 37) rfl (.tmp 36) rfl xs HXL.out rfl ?_
      intro a5 w5 ha5 hblk5 hb5
      have HA5 := Aside0.mk (hblk5)
      clear ha5 hblk5
      refine hK.out _ _ ⟨blk_below hHeld.1 hb5, blk_below hHeld.2.1 hb5, Kd.C_below hHeld.2.2.1 hb5, below_step hHeld.2.2.2 hb5⟩ (fun hHeld => ?_)
      clear hK K
      refine norm_ (a' := ?_) ?_ ?_
      rotate_left
      · show Act.put _ (some 37) _ = _
        simp only [Act.put, List.setIfInBounds_toArray, List.set_cons_zero, List.set_cons_succ, i64_w, i32_w]
        rfl
      refine one_ (i := 18) (N := some 38) #[true, true, true, true, true, true, true, true, true, true, true, true, true, true, true, true, true, true, true, false, false, false] rfl rfl (by kernel_rfl) (by decide) (fun K hK => ?_)
      refine app_step (G := G) (by rfl) (N := 38) rfl (.tmp 35) (.tmp 37) rfl Ar s.R x a5 rfl rfl hHeld.2.2.1 HLE.out HK.out.len (HXS.out ▸ HA5.out) (fun hgg => by have h1_ := HGB.out _ hgg; have h2_ := hHeld.2.2.2.size; omega) ?_
      intro v7 w7 hb7 hrv7
      obtain ⟨A7, c7, e7, _, _⟩ := hrv7.slice
      obtain ⟨n7, hn7⟩ : ∃ n7, (s.R ++ [x]).length = n7 := ⟨_, rfl⟩
      rw [hn7] at e7
      subst e7
      have HRV7 := Aside0.mk hrv7
      clear hrv7 hn7
      refine hK.out _ _ ⟨blk_below hHeld.1 hb7, blk_below hHeld.2.1 hb7, Kd.C_below hHeld.2.2.1 hb7, below_step hHeld.2.2.2 hb7⟩ (fun hHeld => ?_)
      clear hK K
      refine norm_ (a' := ?_) ?_ ?_
      rotate_left
      · show Act.put _ (some 38) _ = _
        simp only [Act.put, List.setIfInBounds_toArray, List.set_cons_zero, List.set_cons_succ, i64_w, i32_w]
        rfl
      refine pure_ (i := 19) (N := some 39) (v := ?_) (a' := ?_) #[true, true, true, true, true, true, true, true, true, true, true, true, true, true, true, true, true, true, true, true, false, false] rfl rfl (by kernel_rfl) (fun _ _ _ h => h) (Or.inl ⟨by rfl, ?_⟩) ?_ ?_
      rotate_left
      · intro w'
        go_simp
        with_reducible rfl
      rotate_left
      · simp only [Act.put, List.setIfInBounds_toArray, List.set_cons_zero, List.set_cons_succ, i64_w, i32_w]
        rfl
      refine pure_ (i := 20) (N := some 40) (v := ?_) (a' := ?_) #[true, true, true, true, true, true, true, true, true, true, true, true, true, true, true, true, true, true, true, true, true, false] rfl rfl (by kernel_rfl) (fun _ _ _ h => h) (Or.inl ⟨by rfl, ?_⟩) ?_ ?_
      rotate_left
      · intro w'
        go_simp
        with_reducible rfl
      rotate_left
      · simp only [Act.put, List.setIfInBounds_toArray, List.set_cons_zero, List.set_cons_succ, i64_w, i32_w]
        rfl
      refine last_ (i := 21) (N := none) #[true, true, true, true, true, true, true, true, true, true, true, true, true, true, true, true, true, true, true, true, true, true] rfl rfl (by kernel_rfl) (by decide) (fun K hK => ?_)
      have hcS := (blk_cell hHeld.1 6).trans (show _ = some (Value.slice Ar s.R.length cr) from rfl)
      have hfS := blk_frozen hHeld.1 6
      refine skip_ (w1 := ?_) (by rfl) rfl ?_ ?_
      rotate_left
      · go_simp
        rfl
      refine hK.out _ _ ?_
      clear hK K
      refine done_ (by kernel_rfl) ?_
      obtain ⟨k0, k1, k2, k3⟩ := hHeld
      obtain ⟨w8, hw8⟩ : ∃ w8, w7.setCell ⟨p, 6, none⟩ (.slice A7 n7 c7) = w8 := ⟨_, rfl⟩
      have hP8 : w8.heap[p]? = some (.cells (shCells b1 b2 b3 b4 s.T.idx s.T.epoch (.slice A7 n7 c7) s.C) 86 (0, 0)) := hw8 ▸ blk_set k0 6 _
      have hpg : g ≠ p := fun e => by have := HH0.out.lt p HH0.out.fp; have := HGS.out; omega
      have hws7 : Ws F w w7 := Ws.of_below (HGS.out ▸ k3)
      have hws8 : Ws F w w8 := hws7.trans (hw8 ▸ Ws.of_set w7 HH0.out.fp 6 _)
      have hX8 : w8.heap[g]? = some (.cells xs.toArray 32 (0, 0)) := hw8 ▸ blk_far k1 hpg _
      have hRV8 : RV G w8 (.slice A7 n7 c7) (s.R ++ [x]) := HRV7.out.ws (hw8 ▸ Ws.of_set (P := F) w7 HH0.out.fp 6 _) HH0.out.fg
      have hpb := HPB.out
      have hS18 : St2 w8 b1 b2 s.T := (HS1.out.below (HGS.out ▸ k3)).same (hw8 ▸ Below.heap_setCell w7 ⟨p, 6, none⟩ _ b1 (Ne.symm hpb.1)) (hw8 ▸ Below.heap_setCell w7 ⟨p, 6, none⟩ _ b2 (Ne.symm hpb.2.1))
      have hS28 : St2 w8 b3 b4 (lastT s) := (HS2.out.below (HGS.out ▸ k3)).same (hw8 ▸ Below.heap_setCell w7 ⟨p, 6, none⟩ _ b3 (Ne.symm hpb.2.2.1)) (hw8 ▸ Below.heap_setCell w7 ⟨p, 6, none⟩ _ b4 (Ne.symm hpb.2.2.2))
      have hT1 := HWf.out.last.1
      have HPUT : Aside0 (∀ w' : World, St2 w' b3 b4 (lastT s) → Calls Tryd.prog 55 #[vS b3 b4, .agg xs.toArray] w' fun e w'' => e = .returned (.tuple #[]) ∧ Ws (fun b => b = b3 ∨ b = b4) w' w'' ∧ St2 w'' b3 b4 (putT (lastT s) x)) := ⟨fun w' h' => HXS.out ▸ put_calls b3 b4 (lastT s) x w' h' (by have := HN0.out; simp at this; exact this.2.2) hT1.up hT1.upd HK.out HCL.out⟩
      have HP8 := Aside0.mk hP8
      have HX8 := Aside0.mk hX8
      have HW8 := Aside0.mk hws8
      have HRV8 := Aside0.mk hRV8
      have HS18 := Aside0.mk hS18
      have HS28 := Aside0.mk hS28
      rw [hw8]
      clear hT1 hS18 hS28 hRV8 hX8 hws7 hws8 hP8 hpb hw8 k0 k1 k2 k3 HRV7 HA5 hb5 hb7 c6
      go_upto_region 9 with (fail)
      refine start_ (n := 6) (S := fun w' => w'.heap[p]? = some (.cells (shCells b1 b2 b3 b4 s.T.idx s.T.epoch (.slice A7 n7 c7) s.C) 86 (0, 0)) ∧ w'.heap[g]? = some (.cells xs.toArray 32 (0, 0)) ∧ St2 w' b3 b4 (lastT s)) (ds := [5]) #[false, false, false, false, false, false] (by kernel_rfl) rfl rfl ⟨HP8.out, HX8.out, HS28.out.below (below_drew1 (Below.refl _ _))⟩ (fun hHeld => ?_)
      refine pure_ (i := 0) (N := some 41) (v := ?_) (a' := ?_) #[true, false, false, false, false, false] rfl rfl (by kernel_rfl) (fun _ _ _ h => h) (Or.inl ⟨by rfl, ?_⟩) ?_ ?_
      rotate_left
      · intro w'
        go_simp
        with_reducible rfl
      rotate_left
      · simp only [Act.put, List.setIfInBounds_toArray, List.set_cons_zero, List.set_cons_succ, i64_w, i32_w]
        rfl
      refine pure_ (i := 1) (N := some 42) (v := ?_) (a' := ?_) #[true, true, false, false, false, false] rfl rfl (by kernel_rfl) (fun _ _ _ h => h) (Or.inl ⟨by rfl, ?_⟩) ?_ ?_
      rotate_left
      · intro w'
        go_simp
        with_reducible rfl
      rotate_left
      · simp only [Act.put, List.setIfInBounds_toArray, List.set_cons_zero, List.set_cons_succ, i64_w, i32_w]
        rfl
      refine pure_ (i := 2) (N := some 43) (v := ?_) (a' := ?_) #[true, true, true, false, false, false] rfl rfl (by kernel_rfl) (fun _ _ _ h => h) (Or.inl ⟨by rfl, ?_⟩) ?_ ?_
      rotate_left
      · intro w'
        go_simp
        with_reducible rfl
      rotate_left
      · simp only [Act.put, List.setIfInBounds_toArray, List.set_cons_zero, List.set_cons_succ, i64_w, i32_w]
        rfl
      refine take_ (i := 3) (N := some 44) (v := ?_) (a' := ?_) #[true, true, true, true, false, false] rfl rfl (by kernel_rfl) (fun _ _ _ h => h) (Or.inl ⟨by rfl, ?_⟩) hHeld ?_ ?_
      rotate_left
      · rintro w' ⟨s0, s1, s2⟩
        refine Eq.trans (exec_seg (P := Tryd.prog) 84 (.tmp 43) rfl p 2 rfl [.map (some b3), .map (some b4)] aggS (seg_two (show w'.cell? ⟨p, 2, none⟩ = some (.map (some b3)) from (blk_cell s0 2).trans rfl) (show w'.cell? ⟨p, 3, none⟩ = some (.map (some b4)) from (blk_cell s0 3).trans rfl))) ?_
        with_reducible rfl
      rotate_left
      · simp only [Act.put, List.setIfInBounds_toArray, List.set_cons_zero, List.set_cons_succ, i64_w, i32_w]
        rfl
      refine take_ (i := 4) (N := some 45) (v := ?_) (a' := ?_) #[true, true, true, true, true, false] rfl rfl (by kernel_rfl) (fun _ _ _ h => h) (Or.inl ⟨by rfl, ?_⟩) hHeld ?_ ?_
      rotate_left
      · rintro w' ⟨s0, s1, s2⟩
        refine Eq.trans (exec_seg (P := Tryd.prog) 32 (.tmp 3) rfl g 0 rfl xs (by rw [HXL.out]; exact aggR) (SegAt.blk (t := 32) (fr := (0, 0)) s1)) ?_
        with_reducible rfl
      rotate_left
      · simp only [Act.put, List.setIfInBounds_toArray, List.set_cons_zero, List.set_cons_succ, i64_w, i32_w]
        rfl
      refine last_ (i := 5) (N := some 46) #[true, true, true, true, true, true] rfl rfl (by kernel_rfl) (by decide) (fun K hK => ?_)
      refine goes_ Tryd.func55 (by kernel_rfl) rfl #[vS b3 b4, .agg xs.toArray] (by rfl) rfl rfl (by first | rfl | (simp; done) | (simp only [List.map_toArray, List.map_cons, List.map_nil]; rfl)) ?_
      with_reducible refine (HPUT.out _ hHeld.2.2).mono ?_
      rintro e w9 ⟨rfl, hws9, hst9⟩
      refine ⟨_, rfl, ?_⟩
      refine hK.out _ _ ?_
      clear hK K
      refine norm_ (a' := ?_) ?_ ?_
      rotate_left
      · show Act.put _ (some 46) _ = _
        simp only [Act.put, List.setIfInBounds_toArray, List.set_cons_zero, List.set_cons_succ, i64_w, i32_w]
        rfl
      refine done_ (by kernel_rfl) ?_
      go_wp2_with (fail)
      go_ret
      have hdr : Ws F w8 w8.drew := Ws.of_below (below_drew1 (Below.refl _ _))
      have hws9F : Ws F w8.drew w9 := hws9.mono (fun b _ hb => by
        rcases hb with rfl | rfl
        · exact HF0.out.2.2.1
        · exact HF0.out.2.2.2)
      have hws89 : Ws (fun b => b = b3 ∨ b = b4) w8 w9 := (Ws.of_below (below_drew1 (Below.refl _ _))).trans hws9
      have hall := HW8.out.trans (hdr.trans hws9F)
      have hpb := HPB.out
      have hnd := HN0.out
      simp at hnd
      have hlast : lastT ⟨s.T, s.R ++ [x], s.C⟩ = putT (lastT s) x := upT_snoc s.T s.R x
      refine ⟨rfl, hall, ⟨fun k hk => Nat.lt_of_lt_of_le (HH0.out.lt k hk) hall.size, HH0.out.fg, HH0.out.fp, b1, b2, b3, b4, .slice A7 n7 c7, ?_, HF0.out, HN0.out, ?_, ?_, ?_⟩⟩
      · exact (hws89.block p (blk_lt HP8.out) (fun e => e.elim hpb.2.2.1 hpb.2.2.2)).trans HP8.out
      · exact HS18.out.ws hws89 (fun e => e.elim hnd.1.2.1 hnd.1.2.2) (fun e => e.elim hnd.2.1.1 hnd.2.1.2)
      · rw [hlast]; exact hst9
      · exact HRV8.out.ws (hdr.trans hws9F) HH0.out.fg
  · have ho := HOut.out
    rw [if_pos cm] at ho
    subst ho
    have d1 : (m != 0) = true := by simpa using cm
    clear cm
    go_wp2_with (fail)
    go_ret
    exact ⟨rfl, Ws.of_below HB2.out, HH0.out.below HB2.out⟩
end
end Go.Proofs.YtgmaedngkhidlaaDoor.Sf
-- SgD
namespace Go.Proofs.YtgmaedngkhidlaaDoor.Sf
open Go Go.RowKit Go.ChangeMaps Go.MapKept Go.Proofs.YtgmaedngkhidlaaDoorW.PrintWords Go.Proofs.YtgmaedngkhidlaaDoorW.PrintLast Go.Proofs.YtgmaedngkhidlaaDoorW.PrintMore
open Go.Maps (Keyed)
set_option linter.unusedVariables false
set_option linter.unusedSimpArgs false
abbrev zCel : List Value := [.int .u8 0, .int .u8 0, .int .u8 0, .int .u8 0, .int .u8 0, .int .u8 0, .int .u8 0, .int .u8 0, .int .i64 0, .string ⟨#[]⟩]
section
variable {F G : Nat → Prop} {p : Nat} {s : Sh}
set_option maxHeartbeats 8000000 in
set_option maxRecDepth 100000 in
theorem Settle_calls (i : Int) (w : World) (h : IsS F G w p s) (hw : Wf s) :
    Calls Tryd.prog 50 #[.pointer (some ⟨p, 0, none⟩), .int .i64 i] w fun e w' => e = .returned (.int .i64 (settleP s i).2) ∧ Ws F w w' ∧ IsS F G w' p (settleP s i).1 := by
  obtain ⟨out, hout⟩ : ∃ out, settleP s i = out := ⟨_, rfl⟩
  rw [hout]
  unfold settleP at hout
  obtain ⟨b1, b2, b3, b4, rv, hp0, hf0, hn0, hs1, hs2, hrv⟩ := h.ex
  have c7 : w.cell? ⟨p, 7, none⟩ = some (.int .i64 s.C) := (blk_cell hp0 7).trans rfl
  have f7 := blk_frozen hp0 7
  have HD := Aside0.mk (dead_calls h)
  have HE := Aside0.mk (end_calls h hw)
  have HOut := Aside0.mk hout
  have HH := Aside0.mk h
  have HP := Aside0.mk hp0
  have HF0 := Aside0.mk hf0
  have HN0 := Aside0.mk hn0
  have HS1 := Aside0.mk hs1
  have HS2 := Aside0.mk hs2
  have HRV := Aside0.mk hrv
  obtain ⟨E, hE⟩ : ∃ E, endI s = E := ⟨_, rfl⟩
  rw [hE] at HE HOut
  obtain ⟨C, hC⟩ : ∃ C, s.C = C := ⟨_, rfl⟩
  rw [hC] at c7 HOut
  have HCE := Aside0.mk hC
  clear hout h hw hp0 hf0 hn0 hs1 hs2 hrv hE hC
  by_cases c1 : i < C
  · have d1 : decide (i < C) = true := decide_eq_true c1
    have ho := HOut.out
    rw [if_pos (.inl c1)] at ho
    subst ho
    clear c1
    go_enter Tryd.func50, Tryd.ntmps50
    go_wp2_with (go_at_call 51; refine HD.out.mono ?_; rintro e w' ⟨rfl, rfl⟩)
    go_ret
    exact ⟨rfl, Ws.refl _ _, HH.out⟩
  have d1 : decide (i < C) = false := decide_eq_false c1
  by_cases c2 : E < i
  · have d2 : decide (i > E) = true := decide_eq_true c2
    have d2' : decide (E < i) = true := decide_eq_true c2
    have ho := HOut.out
    rw [if_pos (.inr c2)] at ho
    subst ho
    clear c1 c2
    go_enter Tryd.func50, Tryd.ntmps50
    go_wp2_with (first
      | (go_at_call 51; refine HD.out.mono ?_; rintro e w' ⟨rfl, rfl⟩)
      | (go_at_call 52; refine HE.out.mono ?_; rintro e w1 ⟨rfl, ⟨nd, rfl⟩⟩))
    go_ret
    exact ⟨rfl, Ws.of_below (pw_below_drewN (Below.refl _ _) nd), HH.out.drew nd⟩
  have d2 : decide (i > E) = false := decide_eq_false c2
  have d2' : decide (E < i) = false := decide_eq_false c2
  have ho := HOut.out
  rw [if_neg (fun h => h.elim c1 c2)] at ho
  subst ho
  clear c1 c2
  go_enter Tryd.func50, Tryd.ntmps50
  go_wp2_with (first
    | (go_at_call 51; refine HD.out.mono ?_; rintro e w' ⟨rfl, rfl⟩)
    | (go_at_call 52; refine HE.out.mono ?_; rintro e w1 ⟨rfl, ⟨nd, rfl⟩⟩))
  go_ret
  have hb := pw_below_drewN (Below.refl w.heap.size w) nd
  have hws : Ws F (w.drewN nd) ((w.drewN nd).setCell ⟨p, 7, none⟩ (.int .i64 i)) := Ws.of_set _ HH.out.fp 7 _
  have hall := (Ws.of_below (P := F) hb).trans hws
  have hne1 := IsMap.ne_cells HS1.out.c HP.out
  have hne2 := IsMap.ne_cells HS1.out.d HP.out
  have hne3 := IsMap.ne_cells HS2.out.c HP.out
  have hne4 := IsMap.ne_cells HS2.out.d HP.out
  have far : ∀ k, p ≠ k → ((w.drewN nd).setCell ⟨p, 7, none⟩ (.int .i64 i)).heap[k]? = (w.drewN nd).heap[k]? := fun k hk => Below.heap_setCell _ ⟨p, 7, none⟩ _ k (Ne.symm hk)
  have hblk := blk_set (blk_drewN HP.out nd) 7 (.int .i64 i)
  refine ⟨rfl, hall, fun k hk => Nat.lt_of_lt_of_le (HH.out.lt k hk) hall.size, HH.out.fg, HH.out.fp, b1, b2, b3, b4, rv, hblk, HF0.out, HN0.out, (HS1.out.below hb).same (far b1 hne1) (far b2 hne2), (HS2.out.below hb).same (far b3 hne3) (far b4 hne4), HRV.out.ws hall HH.out.fg⟩
end
end Go.Proofs.YtgmaedngkhidlaaDoor.Sf
-- SgE
namespace Go.Proofs.YtgmaedngkhidlaaDoor.Sf
open Go Go.RowKit Go.ChangeMaps Go.MapKept Go.Proofs.YtgmaedngkhidlaaDoorW.PrintWords Go.Proofs.YtgmaedngkhidlaaDoorW.PrintLast Go.Proofs.YtgmaedngkhidlaaDoorW.PrintMore
open Go.Maps (Keyed)
set_option linter.unusedVariables false
set_option linter.unusedSimpArgs false
end Go.Proofs.YtgmaedngkhidlaaDoor.Sf
-- SgF
namespace Go.Proofs.YtgmaedngkhidlaaDoor.Sf
open Go Go.RowKit Go.ChangeMaps Go.MapKept Go.Proofs.YtgmaedngkhidlaaDoorW.PrintWords Go.Proofs.YtgmaedngkhidlaaDoorW.PrintLast Go.Proofs.YtgmaedngkhidlaaDoorW.PrintMore
open Go.Maps (Keyed)
set_option linter.unusedVariables false
set_option linter.unusedSimpArgs false
theorem slice_high (w : World) (A : Option Addr) (n c : Nat) (m : Nat) (hm : m ≤ c) : (Instr.sliceAt 47 (.slice A n c) none (some (.int .i64 (m : Int))) none).run Tryd.prog w = .ok (.slice A m c) w := by
  have ht : Tryd.prog.underlying 47 = some (.slice (Tryd.prog.elem 47)) := by kernel_rfl
  rw [run_sliceAt_slice w 47 _ _ _ _ ht, run_slice_h w 47 A n c ht .i64 (m : Int) (by omega) (by omega)]
  have hs : (sizeOf (Tryd.prog.elem 47)).run Tryd.prog w = .ok 14 w := by kernel_rfl
  rw [hs]
  cases A <;> simp [Result.andThen, sliced, add_zero']
section
variable {o : Oper} {a : Act} {w : World}
theorem exec_high (x hi : Operand) (ho : o.op = .slice 47 x none (some hi) none) (A : Option Addr) (n c m : Nat) (hm : m ≤ c) (hx : a.eval x = .slice A n c) (hl : a.eval hi = .int .i64 (m : Int)) : (execOp a.eval o).run Tryd.prog w = .ok (.value (.slice A m c)) w := by
  unfold execOp
  simp only [ho, hx, hl, Option.map, slice_high w A n c m hm, Sem.run_bind, Sem.run_pure, Result.andThen_ok]
end
section
variable {F G : Nat → Prop} {p : Nat} {s : Sh}
end
end Go.Proofs.YtgmaedngkhidlaaDoor.Sf
-- SgG
namespace Go.Proofs.YtgmaedngkhidlaaDoor.Sf
open Go Go.RowKit Go.ChangeMaps Go.MapKept Go.Proofs.YtgmaedngkhidlaaDoorW.PrintWords Go.Proofs.YtgmaedngkhidlaaDoorW.PrintLast Go.Proofs.YtgmaedngkhidlaaDoorW.PrintMore
open Go.Maps (Keyed)
set_option linter.unusedVariables false
set_option linter.unusedSimpArgs false
def encQ (k : Dq) : List Value := [.int .i64 k.op, .int .i64 k.epoch, .int .i64 k.i, .bool k.near] ++ (encK k.key ++ ([.string k.val, .int .i64 k.client, .int .i64 k.seq] ++ encR k.x))
theorem encQ_len {k : Dq} (h : k.key.length = 8) (hx : k.x.key.length = 8) : (encQ k).length = 29 := by
  unfold encQ
  rw [List.length_append, List.length_append, List.length_append, encK_len h, encR_len hx]
  rfl
theorem encQ_one (k : Dq) : ∀ v ∈ encQ k, v.oneCell' = true := by
  intro v hv
  rcases List.mem_append.1 hv with hv | hv
  · simp only [List.mem_cons, List.mem_nil_iff, or_false] at hv
    rcases hv with rfl | rfl | rfl | rfl <;> rfl
  · rcases List.mem_append.1 hv with hv | hv
    · exact encK_one _ v hv
    · rcases List.mem_append.1 hv with hv | hv
      · simp only [List.mem_cons, List.mem_nil_iff, or_false] at hv
        rcases hv with rfl | rfl | rfl <;> rfl
      · exact encR_one _ v hv
structure DoAt (f : Nat → Option Value) (k : Dq) : Prop where
  op : f 0 = some (.int .i64 k.op)
  epoch : f 1 = some (.int .i64 k.epoch)
  i : f 2 = some (.int .i64 k.i)
  near : f 3 = some (.bool k.near)
  key : ∀ j v, (encK k.key)[j]? = some v → f (4 + j) = some v
  val : f 12 = some (.string k.val)
  client : f 13 = some (.int .i64 k.client)
  seq : f 14 = some (.int .i64 k.seq)
  x : ∀ j v, (encR k.x)[j]? = some v → f (15 + j) = some v
theorem doAt {f : Nat → Option Value} {k : Dq} (hk : k.key.length = 8) (h : ∀ j v, (encQ k)[j]? = some v → f j = some v) : DoAt f k := by
  have hl := encK_len hk
  have h4 : ∀ j v, (encK k.key ++ ([.string k.val, .int .i64 k.client, .int .i64 k.seq] ++ encR k.x))[j]? = some v → f (4 + j) = some v := fun j v hv => h (4 + j) v (by
    unfold encQ
    rw [List.getElem?_append_right (by simp), show 4 + j - ([Value.int .i64 k.op, .int .i64 k.epoch, .int .i64 k.i, .bool k.near] : List Value).length = j by simp]
    exact hv)
  have h12 : ∀ j v, (([.string k.val, .int .i64 k.client, .int .i64 k.seq] : List Value) ++ encR k.x)[j]? = some v → f (12 + j) = some v := fun j v hv => by
    have := h4 (8 + j) v (by rw [List.getElem?_append_right (by omega), hl, Nat.add_sub_cancel_left]; exact hv)
    rw [← Nat.add_assoc] at this
    exact this
  have h0 : ∀ j v, ([Value.int .i64 k.op, .int .i64 k.epoch, .int .i64 k.i, .bool k.near] : List Value)[j]? = some v → f j = some v := fun j v hv => h j v (by
    unfold encQ
    rw [List.getElem?_append_left (List.getElem?_eq_some_iff.1 hv).1]
    exact hv)
  refine ⟨h0 0 _ rfl, h0 1 _ rfl, h0 2 _ rfl, h0 3 _ rfl, fun j v hv => h4 j v (by rw [List.getElem?_append_left (List.getElem?_eq_some_iff.1 hv).1]; exact hv), h12 0 _ rfl, h12 1 _ rfl, h12 2 _ rfl, fun j v hv => ?_⟩
  have := h12 (3 + j) v (by rw [List.getElem?_append_right (by simp)]; simpa using hv)
  rw [← Nat.add_assoc] at this
  exact this
theorem u64_wrap (I : Int) : IntKind.u64.wrap I = I % 18446744073709551616 := by
  unfold IntKind.wrap
  simp [IntKind.signed, IntKind.bits]
theorem u64_mod (I m : Int) (hm : 0 < m) : (IntKind.u64.wrap I).tmod m = I % 18446744073709551616 % m := by
  rw [u64_wrap, Int.tmod_eq_emod_of_nonneg (by omega)]
set_option maxHeartbeats 4000000 in
set_option maxRecDepth 100000 in
theorem place_calls (k : Dq) (commit last : Int) (w : World) (hk : k.key.length = 8) (hx : k.x.key.length = 8) (hc : 0 ≤ commit ∧ commit ≤ 1099511627900) (hl : 0 ≤ last ∧ last ≤ 1099511627900) (hi : (Lit.int .i64 k.i).wf = true) :
    Calls Tryd.prog 61 #[.agg (encQ k).toArray, .int .i64 commit, .int .i64 last] w fun e w' => e = .returned (.int .i64 (placeP k (bits .and .i64 k.op 7) commit last)) ∧ Below w.heap.size w w' := by
  obtain ⟨cs, hcs⟩ : ∃ cs, encQ k = cs := ⟨_, rfl⟩
  obtain ⟨O, hO⟩ : ∃ O, bits .and .i64 k.op 7 = O := ⟨_, rfl⟩
  obtain ⟨out, hout⟩ : ∃ out, placeP k (bits .and .i64 k.op 7) commit last = out := ⟨_, rfl⟩
  rw [hcs, hout]
  rw [hO] at hout
  unfold placeP at hout
  obtain ⟨g, hg⟩ : ∃ g, w.heap.size = g := ⟨_, rfl⟩
  obtain ⟨w1, hw1⟩ : ∃ w1, w.alloc (.cells cs.toArray 34) = w1 := ⟨_, rfl⟩
  have hb1 : Below w.heap.size w w1 := hw1 ▸ below_alloc (Below.refl _ _) _
  have hR1 : w1.heap[g]? = some (.cells cs.toArray 34) := hg ▸ hw1 ▸ at_alloc w _
  have D := doAt (f := fun j => w1.cell? ⟨g, j, none⟩) hk (hcs ▸ blk_get hR1)
  have r0 : w1.cell? ⟨g, 0, none⟩ = some (.int .i64 k.op) := D.op
  have r2 : w1.cell? ⟨g, 2, none⟩ = some (.int .i64 k.i) := D.i
  have r3 : w1.cell? ⟨g, 3, none⟩ = some (.bool k.near) := D.near
  have HW := Aside0.mk hw1
  have HB := Aside0.mk hb1
  have HOut := Aside0.mk hout
  have HG := Aside0.mk hg
  obtain ⟨I, hI⟩ : ∃ I, k.i = I := ⟨_, rfl⟩
  rw [hI] at r2 HOut hi
  have hir : -9223372036854775808 ≤ I ∧ I ≤ 9223372036854775807 := by
    have := hi
    simp only [Lit.wf, decide_eq_true_eq] at this
    simpa [IntKind.min, IntKind.max, IntKind.signed, IntKind.bits] using this
  have HI := Aside0.mk (And.intro hir (And.intro hc hl))
  clear hw1 hb1 hR1 D hout hi hir hc hl hI hk hx
  cases hn : k.near with
  | false =>
    rw [hn] at r3
    have ho := HOut.out
    rw [if_pos hn] at ho
    subst ho
    clear hn hO
    go_enter Tryd.func61, Tryd.ntmps61
    go_upto_region 1 with (fail)
    rw [HW.out]
    go_wp2_with (fail)
    go_ret
    exact ⟨rfl, HB.out⟩
  | true =>
    rw [hn] at r3
    have ho := HOut.out
    rw [if_neg (by rw [hn]; decide)] at ho
    have HO2 := Aside0.mk ho
    clear hn ho HOut
    by_cases c4 : O = 4
    · have ho := HO2.out
      rw [if_pos c4] at ho
      subst ho
      have d4 : (O == 4) = true := by simpa using c4
      clear HO2
      go_enter Tryd.func61, Tryd.ntmps61
      go_upto_region 1 with (fail)
      rw [HW.out]
      go_wp2_with (fail)
      go_ret
      have h1 := HI.out
      have h2 := u64_mod I 4 (by decide)
      refine ⟨?_, HB.out⟩
      show Ending.returned (Value.int IntKind.i64 (wrap64 (last - wrap64 ((IntKind.u64.wrap I).tmod 4)))) = _
      rw [h2]
      congr 2
      unfold wrap64
      omega
    · have ho := HO2.out
      rw [if_neg c4] at ho
      subst ho
      have d4 : (O == 4) = false := by simpa using c4
      clear HO2
      go_enter Tryd.func61, Tryd.ntmps61
      go_upto_region 1 with (fail)
      rw [HW.out]
      go_wp2_with (fail)
      go_ret
      have h1 := HI.out
      have h2 := u64_mod I 5 (by decide)
      refine ⟨?_, HB.out⟩
      show Ending.returned (Value.int IntKind.i64 (wrap64 (wrap64 (commit + wrap64 ((IntKind.u64.wrap I).tmod 5)) - 1))) = _
      rw [h2]
      congr 2
      unfold wrap64
      omega
end Go.Proofs.YtgmaedngkhidlaaDoor.Sf
-- SgH
namespace Go.Proofs.YtgmaedngkhidlaaDoor.Sf
open Go Go.RowKit Go.ChangeMaps Go.MapKept Go.Proofs.YtgmaedngkhidlaaDoorW.PrintWords Go.Proofs.YtgmaedngkhidlaaDoorW.PrintLast Go.Proofs.YtgmaedngkhidlaaDoorW.PrintMore
open Go.Maps (Keyed)
set_option linter.unusedVariables false
set_option linter.unusedSimpArgs false
theorem C_atC {A : Option Addr} {n : Nat} {R : List Cel} {w : World} (h : kC.C w A n R) (i : Nat) (hi : i < R.length) : ∃ ad, A = some ad ∧ (R[i]).key.length = 8 ∧ ∀ j v, (encC R[i])[j]? = some v → w.cell? ((ad.add (i * 10)).add j) = some v := by
  obtain ⟨hn, _, hc0⟩ := h
  obtain ⟨ad, rfl, hc1⟩ := hc0 (by omega)
  obtain ⟨cs, hl, ⟨he, hl2⟩, hcc⟩ := hc1 i R[i] (List.getElem?_eq_getElem hi)
  refine ⟨ad, rfl, ?_, fun j v hj => ?_⟩
  · have hq : (encC R[i]).length = 10 := by rw [← he]; exact hl2
    unfold encC encK at hq
    simp at hq
    omega
  · rw [add_add]
    exact hcc j v (by rw [he]; exact hj)
structure IsB (e : Ending) : Prop where mk :: (out : ∃ b, e = .returned (.bool b))
abbrev vT (idx epoch : Int) (A : Option Addr) (n c : Nat) (B : Option Addr) (m d : Nat) : Value := .agg #[.int .i64 idx, .int .i64 epoch, .slice A n c, .slice B m d]
set_option maxHeartbeats 4000000 in
set_option maxRecDepth 100000 in
theorem key_calls (v : ByteArray) (w : World) : Calls Tryd.prog 49 #[.string v] w fun e w' => e = .returned (vK (keyP v).1) ∧ Below w.heap.size w w' := by
  obtain ⟨ks, hks⟩ : ∃ ks, encK (keyP v).1 = ks := ⟨_, rfl⟩
  change Calls _ _ _ _ fun e w' => e = .returned (.agg (encK (keyP v).1).toArray) ∧ Below w.heap.size w w'
  have hl := encK_len (keyP_L v).len
  have h1 := encK_one (keyP v).1
  rw [hks] at hl h1 ⊢
  obtain ⟨w1, hw1⟩ : ∃ w1, w.alloc (.cells #[.int .u8 0, .int .u8 0, .int .u8 0, .int .u8 0, .int .u8 0, .int .u8 0, .int .u8 0, .int .u8 0] 28) = w1 := ⟨_, rfl⟩
  have hb1 : Below w.heap.size w w1 := hw1 ▸ below_alloc (Below.refl _ _) _
  have hz1 := hw1 ▸ at_alloc w (.cells #[.int .u8 0, .int .u8 0, .int .u8 0, .int .u8 0, .int .u8 0, .int .u8 0, .int .u8 0, .int .u8 0] 28)
  have HK := Aside0.mk (show Calls Tryd.prog 70 #[.string v] w1 fun e w' => e = .returned (.tuple #[.agg ks.toArray, .int .i64 (keyP v).2]) ∧ Below w1.heap.size w1 w' from hks ▸ Key_calls v w1)
  obtain ⟨E, hE⟩ : ∃ E, (keyP v).2 = E := ⟨_, rfl⟩
  rw [hE] at HK
  have HL := Aside0.mk hl
  have H1 := Aside0.mk h1
  have HW := Aside0.mk hw1
  have HB := Aside0.mk hb1
  have HZ := Aside0.mk hz1
  clear hl h1 hw1 hb1 hz1 hks hE
  go_enter Tryd.func49, Tryd.ntmps49
  go_upto_region 1 with (fail)
  rw [HW.out]
  go_upto_region 2 with (first
    | (go_at_call 70; refine HK.out.mono ?_; rintro e w2 ⟨rfl, hb2⟩)
    | ((with_reducible refine gate_ (.store 28 (.tmp 3) (.tmp 8)) rfl ?_); go_must (refine wpList_fill (P := Tryd.prog) rfl 28 (.tmp 3) (.tmp 8) rfl ks _ rfl rfl (by rw [HL.out]; exact aggK) (by rw [HL.out]; rfl) H1.out ?_)))
  obtain ⟨w3, hw3⟩ : ∃ w3, w2.alloc (.cells ks.toArray 28) = w3 := ⟨_, rfl⟩
  have hb3 : Below w2.heap.size w2 w3 := hw3 ▸ below_alloc (Below.refl _ _) _
  have HX := Aside0.mk (show w3.heap[w2.heap.size]? = some (.cells ks.toArray 28) from hw3 ▸ at_alloc w2 _)
  have hb4 := below_then HB.out HB.out.size (below_then hb2 hb2.size hb3)
  have HB4 := Aside0.mk hb4
  have HZ3 := Aside0.mk (blk_below (blk_below HZ.out hb2) hb3)
  rw [hw3]
  clear hw3 hb2 hb3 hb4
  go_wp2_with (first
    | ((with_reducible refine gate_dst (N := 10) rfl ?_); go_must (refine wpList_seg (P := Tryd.prog) rfl 28 (.tmp 3) rfl w2.heap.size 0 rfl ks (by rw [HL.out]; exact aggK) (SegAt.blk (t := 28) (fr := (0, 0)) HX.out) ?_))
    | ((with_reducible refine gate_ (.store 28 (.tmp 2) (.tmp 10)) rfl ?_); go_must (refine wpList_row (P := Tryd.prog) rfl 28 (.tmp 2) (.tmp 10) rfl w.heap.size _ 28 HZ3.out ks rfl rfl (by rw [HL.out]; exact aggK) (by rw [HL.out]; rfl) H1.out ?_); intro w5 r1 r2 r3))
  refine bodyPost_ret (results_c rfl _ _ w.heap.size 28 ks.toArray (0, 0) _ (by rfl) r3 Tryd.underlying28 rfl (by rw [List.size_toArray, HL.out]; kernel_rfl)) rfl ?_
  exact ⟨rfl, pw_below_grown HB4.out _ HB4.out.size r1 (fun k e => by injection e with e; omega)⟩
end Go.Proofs.YtgmaedngkhidlaaDoor.Sf
-- SgK
namespace Go.Proofs.YtgmaedngkhidlaaDoor.Sf
open Go Go.RowKit Go.ChangeMaps Go.MapKept Go.Proofs.YtgmaedngkhidlaaDoorW.PrintWords Go.Proofs.YtgmaedngkhidlaaDoorW.PrintLast Go.Proofs.YtgmaedngkhidlaaDoorW.PrintMore
open Go.Maps (Keyed)
set_option linter.unusedVariables false
set_option linter.unusedSimpArgs false
theorem C_atR {A : Option Addr} {n : Nat} {R : List Rc} {w : World} (h : kR.C w A n R) (i : Nat) (hi : i < R.length) : ∃ ad, A = some ad ∧ (R[i]).key.length = 8 ∧ ∀ j v, (encR R[i])[j]? = some v → w.cell? ((ad.add (i * 14)).add j) = some v := by
  obtain ⟨hn, _, hc0⟩ := h
  obtain ⟨ad, rfl, hc1⟩ := hc0 (by omega)
  obtain ⟨cs, hl, ⟨he, hl2⟩, hcc⟩ := hc1 i R[i] (List.getElem?_eq_getElem hi)
  refine ⟨ad, rfl, ?_, fun j v hj => ?_⟩
  · have hq : (encR R[i]).length = 14 := by rw [← he]; exact hl2
    unfold encR encK at hq
    simp at hq
    omega
  · rw [add_add]
    exact hcc j v (by rw [he]; exact hj)
section
variable {F G : Nat → Prop} {p : Nat} {s : Sh}
end
end Go.Proofs.YtgmaedngkhidlaaDoor.Sf
-- SgL
namespace Go.Proofs.YtgmaedngkhidlaaDoor.Sf
open Go Go.RowKit Go.ChangeMaps Go.MapKept Go.Proofs.YtgmaedngkhidlaaDoorW.PrintWords Go.Proofs.YtgmaedngkhidlaaDoorW.PrintLast Go.Proofs.YtgmaedngkhidlaaDoorW.PrintMore
open Go.Maps (Keyed)
set_option linter.unusedVariables false
set_option linter.unusedSimpArgs false
structure Ky (s : Sh) : Prop where
  cell : ∀ c ∈ s.T.cells, KeyL c.key
  rc : ∀ x ∈ s.R, KeyL x.key
theorem RV.c {G : Nat → Prop} {w : World} {A : Option Addr} {n c : Nat} {R : List Rc} (h : RV G w (.slice A n c) R) : kR.C w A R.length R := by
  obtain ⟨A', c', e, _, hC⟩ := h.slice
  injection e with e1 e2 e3
  subst e1
  exact hC
section
variable {F G : Nat → Prop} {p : Nat} {s : Sh}
end
end Go.Proofs.YtgmaedngkhidlaaDoor.Sf
-- SgM
namespace Go.Proofs.YtgmaedngkhidlaaDoor.Sf
open Go Go.RowKit Go.ChangeMaps Go.MapKept Go.Proofs.YtgmaedngkhidlaaDoorW.PrintWords Go.Proofs.YtgmaedngkhidlaaDoorW.PrintLast Go.Proofs.YtgmaedngkhidlaaDoorW.PrintMore
open Go.Maps (Keyed)
set_option linter.unusedVariables false
set_option linter.unusedSimpArgs false
section
variable {F G : Nat → Prop} {p : Nat} {s : Sh}
end
end Go.Proofs.YtgmaedngkhidlaaDoor.Sf
-- SgN
namespace Go.Proofs.YtgmaedngkhidlaaDoor.Sf
open Go Go.RowKit Go.ChangeMaps Go.MapKept Go.Proofs.YtgmaedngkhidlaaDoorW.PrintWords Go.Proofs.YtgmaedngkhidlaaDoorW.PrintLast Go.Proofs.YtgmaedngkhidlaaDoorW.PrintMore
open Go.Maps (Keyed)
set_option linter.unusedVariables false
set_option linter.unusedSimpArgs false
def pickC (k : List Int) (c : Cel) (x : Rc) : Cel := if x.key = k then ⟨k, x.ver, x.val⟩ else c
def cleanP (s : Sh) (k : List Int) : Cel := (s.R.take (s.C - s.T.idx).toNat).foldl (pickC k) (lookC s.T.cells k)
theorem pick_len {k : List Int} (hk : k.length = 8) : ∀ (l : List Rc) (c : Cel), c.key.length = 8 → (l.foldl (pickC k) c).key.length = 8
  | [], c, h => h
  | x :: r, c, h => pick_len hk r (pickC k c x) (by unfold pickC; split; exact hk; exact h)
theorem pick_snoc {k : List Int} {l : List Rc} {c : Cel} {j : Nat} {x : Rc} (hj : l[j]? = some x) : (l.take (j + 1)).foldl (pickC k) c = pickC k ((l.take j).foldl (pickC k) c) x := by
  obtain ⟨hl, he⟩ := List.getElem?_eq_some_iff.1 hj
  rw [List.take_succ_eq_append_getElem hl, List.foldl_append, he]
  rfl
section
variable {F G : Nat → Prop} {p : Nat} {s : Sh}
set_option maxHeartbeats 8000000 in
set_option maxRecDepth 100000 in
theorem Clean_calls (k : List Int) (w : World) (h : IsS F G w p s) (hw : Wf s) (hy : Ky s) (hk : KeyL k) :
    Calls Tryd.prog 37 #[.pointer (some ⟨p, 0, none⟩), vK k] w fun e w' => e = .returned (vC (cleanP s k)) ∧ Below w.heap.size w w' := by
  obtain ⟨ks, hks⟩ : ∃ ks, encK k = ks := ⟨_, rfl⟩
  change Calls Tryd.prog 37 #[.pointer (some ⟨p, 0, none⟩), .agg (encK k).toArray] w _
  have hlk := encK_len hk.len
  rw [hks] at hlk ⊢
  obtain ⟨g, hg⟩ : ∃ g, w.heap.size = g := ⟨_, rfl⟩
  obtain ⟨w1, hw1⟩ : ∃ w1, w.alloc (.cells ks.toArray 28) = w1 := ⟨_, rfl⟩
  have hs1 : w1.heap.size = g + 1 := by rw [← hw1, ← hg]; simp
  obtain ⟨w2, hw2⟩ : ∃ w2, w1.alloc (.cells zCel.toArray 45) = w2 := ⟨_, rfl⟩
  have hb1 : Below w.heap.size w w1 := hw1 ▸ below_alloc (Below.refl _ _) _
  have hb2 : Below w.heap.size w w2 := below_then hb1 hb1.size (hw2 ▸ below_alloc (Below.refl _ _) _)
  have hK1 : w1.heap[g]? = some (.cells ks.toArray 28) := hg ▸ hw1 ▸ at_alloc w _
  have hK2 : w2.heap[g]? = some (.cells ks.toArray 28) := hw2 ▸ under_alloc hK1 _
  have hZ2 : w2.heap[g + 1]? = some (.cells zCel.toArray 45) := hs1 ▸ hw2 ▸ at_alloc w1 _
  have h2 := h.below hb2
  obtain ⟨b1, b2, b3, b4, rv, hp0, hf0, hn0, hS1, hS2, hrv⟩ := h2.ex
  obtain ⟨Ar, cr, rfl, hcr, hCr⟩ := hrv.slice
  obtain ⟨n, hn⟩ : ∃ n, s.R.length = n := ⟨_, rfl⟩
  obtain ⟨lo, hl⟩ : ∃ lo, s.T.idx = lo := ⟨_, rfl⟩
  obtain ⟨ep, hep⟩ : ∃ ep, s.T.epoch = ep := ⟨_, rfl⟩
  obtain ⟨cm, hcm⟩ : ∃ cm, s.C = cm := ⟨_, rfl⟩
  have hti := hw.tab.idx
  have hlo := hw.lo
  have hhi := hw.hi
  have hlen := hw.len
  unfold endI at hhi
  rw [hl, hep, hcm, hn] at hp0
  rw [hn] at hcr hCr hlen
  rw [hl, hcm, hn] at hhi
  rw [hl, hcm] at hlo
  rw [hl] at hti
  obtain ⟨m, hm⟩ : ∃ m, (cm - lo).toNat = m := ⟨_, rfl⟩
  have hwr : IntKind.i64.wrap (cm - lo) = (m : Int) := by rw [IntWalk.i64_in _ (by omega)]; omega
  have HM : Aside0 (m ≤ n ∧ m ≤ 24 ∧ m ≤ cr) := ⟨by omega⟩
  obtain ⟨out, hout⟩ : ∃ out, cleanP s k = out := ⟨_, rfl⟩
  rw [hout]
  unfold cleanP at hout
  rw [hcm, hl, hm] at hout
  have HOut := Aside0.mk hout
  have HP2 := Aside0.mk hp0
  have HS2 := Aside0.mk hS1
  have HH2 := Aside0.mk h2
  have HK2 := Aside0.mk hK2
  have HZ2 := Aside0.mk hZ2
  have HB2 := Aside0.mk hb2
  have HRV2 : Aside0 (RV (fun b => G b ∨ w2.heap.size ≤ b) w2 (.slice Ar n cr) s.R) := ⟨hn ▸ hrv.grow (fun b hb hg => hg.elim id (fun e => by omega))⟩
  have HW := Aside0.mk (And.intro hw1 hw2)
  have HLK := Aside0.mk hlk
  have HKL := Aside0.mk hk
  have HKy := Aside0.mk hy
  have HN := Aside0.mk hn
  have HKS := Aside0.mk hks
  have HSZ : Aside0 (w.heap.size = g ∧ p < g ∧ w2.heap.size = g + 2 ∧ n ≤ 24) := ⟨hg, hg ▸ h.lt p h.fp, by rw [← hw2]; simp [hs1], hlen⟩
  have HDL : Aside0 ((encC (lookC s.T.cells k)).length = 10) := ⟨encC_len (lookC_len hk.len)⟩
  have HD1 := Aside0.mk (encC_one (lookC s.T.cells k))
  have HLOOK : Aside0 (∀ w' : World, IsCs w' b1 s.T.cells → (Instr.lookup 81 (.map (some b1)) (.agg ks.toArray) false).run Tryd.prog w' = .ok (.agg (encC (lookC s.T.cells k)).toArray) w') := ⟨fun w' hc => hks ▸ IsCs.look hc hw.tab.up hk false⟩
  change Calls _ _ _ _ fun e w' => e = .returned (.agg (encC out).toArray) ∧ Below w.heap.size w w'
  obtain ⟨ds, hds⟩ : ∃ ds, encC (lookC s.T.cells k) = ds := ⟨_, rfl⟩
  rw [hds] at HDL HD1 HLOOK
  have HDS := Aside0.mk hds
  have HMC : Aside0 (m ≤ cr) := ⟨HM.out.2.2⟩
  clear hlk hw1 hw2 hs1 hb1 hb2 hK1 hK2 hZ2 h2 hp0 hf0 hn0 hS1 hS2 hrv hcr hCr hn hl hep hcm hti hlo hhi hlen hout hds h hw hy hk hks hm
  go_enter Tryd.func37, Tryd.ntmps37
  go_upto_region 1 with (fail)
  rw [HW.out.1, HW.out.2]
  go_upto_region 3 with (go_at_call 51; refine (dead_calls HH2.out).mono ?_; rintro e w' ⟨rfl, rfl⟩)
  refine start_ (n := 9) (S := fun w' => w'.heap[p]? = some (.cells (shCells b1 b2 b3 b4 lo ep (.slice Ar n cr) cm) 86 (0, 0)) ∧ w'.heap[g]? = some (.cells ks.toArray 28 (0, 0)) ∧ St2 w' b1 b2 s.T ∧ Below w2.heap.size w2 w') (ds := [8]) #[false, false, false, false, false, false, false, false, false] (by kernel_rfl) rfl rfl ⟨HP2.out, HK2.out, HS2.out.below (below_drew1 (Below.refl _ _)), below_drew1 (Below.refl _ _)⟩ (fun hHeld => ?_)
  refine pure_ (i := 0) (N := some 11) (v := ?_) (a' := ?_) #[true, false, false, false, false, false, false, false, false] rfl rfl (by kernel_rfl) (fun _ _ _ h => h) (Or.inl ⟨by rfl, ?_⟩) ?_ ?_
  rotate_left
  · intro w'
    go_simp
    with_reducible rfl
  rotate_left
  · simp only [Act.put, List.setIfInBounds_toArray, List.set_cons_zero, List.set_cons_succ, i64_w, i32_w]
    rfl
  refine pure_ (i := 1) (N := some 12) (v := ?_) (a' := ?_) #[true, true, false, false, false, false, false, false, false] rfl rfl (by kernel_rfl) (fun _ _ _ h => h) (Or.inl ⟨by rfl, ?_⟩) ?_ ?_
  rotate_left
  · intro w'
    go_simp
    with_reducible rfl
  rotate_left
  · simp only [Act.put, List.setIfInBounds_toArray, List.set_cons_zero, List.set_cons_succ, i64_w, i32_w]
    rfl
  refine pure_ (i := 2) (N := some 13) (v := ?_) (a' := ?_) #[true, true, true, false, false, false, false, false, false] rfl rfl (by kernel_rfl) (fun _ _ _ h => h) (Or.inl ⟨by rfl, ?_⟩) ?_ ?_
  rotate_left
  · intro w'
    go_simp
    with_reducible rfl
  rotate_left
  · simp only [Act.put, List.setIfInBounds_toArray, List.set_cons_zero, List.set_cons_succ, i64_w, i32_w]
    rfl
  refine pure_ (i := 3) (N := some 14) (v := ?_) (a' := ?_) #[true, true, true, true, false, false, false, false, false] rfl rfl (by kernel_rfl) (fun _ _ _ h => h) (Or.inl ⟨by rfl, ?_⟩) ?_ ?_
  rotate_left
  · intro w'
    go_simp
    with_reducible rfl
  rotate_left
  · simp only [Act.put, List.setIfInBounds_toArray, List.set_cons_zero, List.set_cons_succ, i64_w, i32_w]
    rfl
  refine take_ (i := 4) (N := some 15) (v := ?_) (a' := ?_) #[true, true, true, true, true, false, false, false, false] rfl rfl (by kernel_rfl) (fun _ _ _ h => h) (Or.inl ⟨by rfl, ?_⟩) hHeld ?_ ?_
  rotate_left
  · rintro w' ⟨s0, s1, s2, s3⟩
    have d0_ := (blk_cell s0 0).trans (show _ = some (.map (some b1)) from rfl)
    go_simp
    with_reducible rfl
  rotate_left
  · simp only [Act.put, List.setIfInBounds_toArray, List.set_cons_zero, List.set_cons_succ, i64_w, i32_w]
    rfl
  refine take_ (i := 5) (N := some 16) (v := ?_) (a' := ?_) #[true, true, true, true, true, true, false, false, false] rfl rfl (by kernel_rfl) (fun _ _ _ h => h) (Or.inl ⟨by rfl, ?_⟩) hHeld ?_ ?_
  rotate_left
  · rintro w' ⟨s0, s1, s2, s3⟩
    refine Eq.trans (exec_seg (P := Tryd.prog) 28 (.tmp 3) rfl g 0 rfl ks (by rw [HLK.out]; exact aggK) (SegAt.blk (t := 28) (fr := (0, 0)) s1)) ?_
    with_reducible rfl
  rotate_left
  · simp only [Act.put, List.setIfInBounds_toArray, List.set_cons_zero, List.set_cons_succ, i64_w, i32_w]
    rfl
  refine take_ (i := 6) (N := some 17) (v := ?_) (a' := ?_) #[true, true, true, true, true, true, true, false, false] rfl rfl (by kernel_rfl) (fun _ _ _ h => h) (Or.inl ⟨by rfl, ?_⟩) hHeld ?_ ?_
  rotate_left
  · rintro w' ⟨s0, s1, s2, s3⟩
    refine Eq.trans (exec_look (P := Tryd.prog) 81 (.tmp 15) (.tmp 16) false rfl (.map (some b1)) (.agg ks.toArray) _ rfl rfl (HLOOK.out _ s2.c)) ?_
    with_reducible rfl
  rotate_left
  · simp only [Act.put, List.setIfInBounds_toArray, List.set_cons_zero, List.set_cons_succ, i64_w, i32_w]
    rfl
  refine one_ (i := 7) (N := some 5) #[true, true, true, true, true, true, true, true, false] rfl rfl (by kernel_rfl) (by decide) (fun K hK => ?_)
  refine box_step (by rfl) (N := 5) rfl (cs := #[.int .u8 0, .int .u8 0, .int .u8 0, .int .u8 0, .int .u8 0, .int .u8 0, .int .u8 0, .int .u8 0, .int .i64 0, .string ⟨#[]⟩]) (t := 45) ?hr ?_
  case hr => first | (go_simp; done) | (go_simp; rfl)
  intro b9 hb9 w9 hblk9 hbel9
  have HA9 := Aside0.mk hblk9
  have HG9 := Aside0.mk (And.intro (show w2.heap.size ≤ b9 from hb9 ▸ hHeld.2.2.2.size) (And.intro (show g < b9 from hb9 ▸ blk_lt hHeld.2.1) (show p < b9 from hb9 ▸ blk_lt hHeld.1)))
  clear hblk9 hb9
  refine hK.out _ _ ⟨blk_below hHeld.1 hbel9, blk_below hHeld.2.1 hbel9, hHeld.2.2.1.below hbel9, below_step hHeld.2.2.2 hbel9⟩ (fun hHeld => ?_)
  clear hK K
  refine norm_ (a' := ?_) ?_ ?_
  rotate_left
  · show Act.put _ (some 5) _ = _
    simp only [Act.put, List.setIfInBounds_toArray, List.set_cons_zero, List.set_cons_succ, i64_w, i32_w]
    rfl
  refine last_ (i := 8) (N := none) #[true, true, true, true, true, true, true, true, true] rfl rfl (by kernel_rfl) (by decide) (fun K hK => ?_)
  refine skip_row (P := Tryd.prog) (by rfl) rfl 45 (.tmp 5) (.tmp 17) rfl b9 _ 45 HA9.out ds rfl rfl (by rw [HDL.out]; exact aggC) (by rw [HDL.out]; rfl) HD1.out ?_
  intro w10 q1 q2 q3
  refine hK.out _ _ ?_
  clear hK K
  refine done_ (by kernel_rfl) ?_
  have hgb := HG9.out
  have hne : ∀ i, i < b9 → some i ≠ some b9 := fun i h e => by injection e with e; omega
  have hz := HSZ.out
  have HP10 := Aside0.mk ((q1.block p (blk_lt hHeld.1) (hne p (by omega))).trans hHeld.1)
  have HK10 := Aside0.mk ((q1.block g (blk_lt hHeld.2.1) (hne g (by omega))).trans hHeld.2.1)
  have HB10 := Aside0.mk (pw_below_grown hHeld.2.2.2 _ hHeld.2.2.2.size q1 (fun i e => by injection e with e; omega))
  have HD10 := Aside0.mk q3
  clear hHeld q1 q2 q3 hgb hne hz HA9 HP2 HK2 HLOOK
  go_upto_region 4 with (fail)
  refine start_ (n := 16) (S := fun w' => w'.heap[p]? = some (.cells (shCells b1 b2 b3 b4 lo ep (.slice Ar n cr) cm) 86 (0, 0))) (ds := []) #[false, false, false, false, false, false, false, false, false, false, false, false, false, false, false, false] (by kernel_rfl) rfl rfl (blk_below HP10.out (below_drew1 (Below.refl _ _))) (fun hHeld => ?_)
  refine pure_ (i := 0) (N := some 18) (v := ?_) (a' := ?_) #[true, false, false, false, false, false, false, false, false, false, false, false, false, false, false, false] rfl rfl (by kernel_rfl) (fun _ _ _ h => h) (Or.inl ⟨by rfl, ?_⟩) ?_ ?_
  rotate_left
  · intro w'
    go_simp
    with_reducible rfl
  rotate_left
  · simp only [Act.put, List.setIfInBounds_toArray, List.set_cons_zero, List.set_cons_succ, i64_w, i32_w]
    rfl
  refine pure_ (i := 1) (N := some 19) (v := ?_) (a' := ?_) #[true, true, false, false, false, false, false, false, false, false, false, false, false, false, false, false] rfl rfl (by kernel_rfl) (fun _ _ _ h => h) (Or.inl ⟨by rfl, ?_⟩) ?_ ?_
  rotate_left
  · intro w'
    go_simp
    with_reducible rfl
  rotate_left
  · simp only [Act.put, List.setIfInBounds_toArray, List.set_cons_zero, List.set_cons_succ, i64_w, i32_w]
    rfl
  refine pure_ (i := 2) (N := some 20) (v := ?_) (a' := ?_) #[true, true, true, false, false, false, false, false, false, false, false, false, false, false, false, false] rfl rfl (by kernel_rfl) (fun _ _ _ h => h) (Or.inl ⟨by rfl, ?_⟩) ?_ ?_
  rotate_left
  · intro w'
    go_simp
    with_reducible rfl
  rotate_left
  · simp only [Act.put, List.setIfInBounds_toArray, List.set_cons_zero, List.set_cons_succ, i64_w, i32_w]
    rfl
  refine pure_ (i := 4) (N := some 22) (v := ?_) (a' := ?_) #[true, true, true, false, true, false, false, false, false, false, false, false, false, false, false, false] rfl rfl (by kernel_rfl) (fun _ _ _ h => h) (Or.inl ⟨by rfl, ?_⟩) ?_ ?_
  rotate_left
  · intro w'
    go_simp
    with_reducible rfl
  rotate_left
  · simp only [Act.put, List.setIfInBounds_toArray, List.set_cons_zero, List.set_cons_succ, i64_w, i32_w]
    rfl
  refine pure_ (i := 5) (N := some 23) (v := ?_) (a' := ?_) #[true, true, true, false, true, true, false, false, false, false, false, false, false, false, false, false] rfl rfl (by kernel_rfl) (fun _ _ _ h => h) (Or.inl ⟨by rfl, ?_⟩) ?_ ?_
  rotate_left
  · intro w'
    go_simp
    with_reducible rfl
  rotate_left
  · simp only [Act.put, List.setIfInBounds_toArray, List.set_cons_zero, List.set_cons_succ, i64_w, i32_w]
    rfl
  refine pure_ (i := 6) (N := some 24) (v := ?_) (a' := ?_) #[true, true, true, false, true, true, true, false, false, false, false, false, false, false, false, false] rfl rfl (by kernel_rfl) (fun _ _ _ h => h) (Or.inl ⟨by rfl, ?_⟩) ?_ ?_
  rotate_left
  · intro w'
    go_simp
    with_reducible rfl
  rotate_left
  · simp only [Act.put, List.setIfInBounds_toArray, List.set_cons_zero, List.set_cons_succ, i64_w, i32_w]
    rfl
  refine pure_ (i := 8) (N := some 26) (v := ?_) (a' := ?_) #[true, true, true, false, true, true, true, false, true, false, false, false, false, false, false, false] rfl rfl (by kernel_rfl) (fun _ _ _ h => h) (Or.inl ⟨by rfl, ?_⟩) ?_ ?_
  rotate_left
  · intro w'
    go_simp
    with_reducible rfl
  rotate_left
  · simp only [Act.put, List.setIfInBounds_toArray, List.set_cons_zero, List.set_cons_succ, i64_w, i32_w]
    rfl
  refine pure_ (i := 9) (N := some 27) (v := ?_) (a' := ?_) #[true, true, true, false, true, true, true, false, true, true, false, false, false, false, false, false] rfl rfl (by kernel_rfl) (fun _ _ _ h => h) (Or.inl ⟨by rfl, ?_⟩) ?_ ?_
  rotate_left
  · intro w'
    go_simp
    with_reducible rfl
  rotate_left
  · simp only [Act.put, List.setIfInBounds_toArray, List.set_cons_zero, List.set_cons_succ, i64_w, i32_w]
    rfl
  refine pure_ (i := 10) (N := some 28) (v := ?_) (a' := ?_) #[true, true, true, false, true, true, true, false, true, true, true, false, false, false, false, false] rfl rfl (by kernel_rfl) (fun _ _ _ h => h) (Or.inl ⟨by rfl, ?_⟩) ?_ ?_
  rotate_left
  · intro w'
    go_simp
    with_reducible rfl
  rotate_left
  · simp only [Act.put, List.setIfInBounds_toArray, List.set_cons_zero, List.set_cons_succ, i64_w, i32_w]
    rfl
  refine pure_ (i := 15) (N := some 33) (v := ?_) (a' := ?_) #[true, true, true, false, true, true, true, false, true, true, true, false, false, false, false, true] rfl rfl (by kernel_rfl) (fun _ _ _ h => h) (Or.inl ⟨by rfl, ?_⟩) ?_ ?_
  rotate_left
  · intro w'
    go_simp
    with_reducible rfl
  rotate_left
  · simp only [Act.put, List.setIfInBounds_toArray, List.set_cons_zero, List.set_cons_succ, i64_w, i32_w]
    rfl
  refine take_ (i := 3) (N := some 21) (v := ?_) (a' := ?_) #[true, true, true, true, true, true, true, false, true, true, true, false, false, false, false, true] rfl rfl (by kernel_rfl) (fun _ _ _ h => h) (Or.inl ⟨by rfl, ?_⟩) hHeld ?_ ?_
  rotate_left
  · intro w' s0
    have d6_ := (blk_cell s0 6).trans (show _ = some (.slice Ar n cr) from rfl)
    go_simp
    with_reducible rfl
  rotate_left
  · simp only [Act.put, List.setIfInBounds_toArray, List.set_cons_zero, List.set_cons_succ, i64_w, i32_w]
    rfl
  refine take_ (i := 7) (N := some 25) (v := ?_) (a' := ?_) #[true, true, true, true, true, true, true, true, true, true, true, false, false, false, false, true] rfl rfl (by kernel_rfl) (fun _ _ _ h => h) (Or.inl ⟨by rfl, ?_⟩) hHeld ?_ ?_
  rotate_left
  · intro w' s0
    have d7_ := (blk_cell s0 7).trans (show _ = some (.int .i64 cm) from rfl)
    go_simp
    with_reducible rfl
  rotate_left
  · simp only [Act.put, List.setIfInBounds_toArray, List.set_cons_zero, List.set_cons_succ, i64_w, i32_w]
    rfl
  refine take_ (i := 11) (N := some 29) (v := ?_) (a' := ?_) #[true, true, true, true, true, true, true, true, true, true, true, true, false, false, false, true] rfl rfl (by kernel_rfl) (fun _ _ _ h => h) (Or.inl ⟨by rfl, ?_⟩) hHeld ?_ ?_
  rotate_left
  · intro w' s0
    have d4_ := (blk_cell s0 4).trans (show _ = some (.int .i64 lo) from rfl)
    go_simp
    with_reducible rfl
  rotate_left
  · simp only [Act.put, List.setIfInBounds_toArray, List.set_cons_zero, List.set_cons_succ, i64_w, i32_w]
    rfl
  refine pure_ (i := 12) (N := some 30) (v := ?_) (a' := ?_) #[true, true, true, true, true, true, true, true, true, true, true, true, true, false, false, true] rfl rfl (by kernel_rfl) (fun _ _ _ h => h) (Or.inl ⟨by rfl, ?_⟩) ?_ ?_
  rotate_left
  · intro w'
    go_simp
    with_reducible rfl
  rotate_left
  · simp only [Act.put, List.setIfInBounds_toArray, List.set_cons_zero, List.set_cons_succ, i64_w, i32_w]
    rfl
  refine pure_ (i := 13) (N := some 31) (v := ?_) (a' := ?_) #[true, true, true, true, true, true, true, true, true, true, true, true, true, true, false, true] rfl rfl (by kernel_rfl) (fun _ _ _ h => h) (Or.inl ⟨by rfl, ?_⟩) ?_ ?_
  rotate_left
  · intro w'
    refine Eq.trans (exec_high (.tmp 21) (.tmp 30) rfl Ar n cr m HMC.out rfl rfl) ?_
    with_reducible rfl
  rotate_left
  · simp only [Act.put, List.setIfInBounds_toArray, List.set_cons_zero, List.set_cons_succ, i64_w, i32_w]
    rfl
  refine pure_ (i := 14) (N := some 32) (v := ?_) (a' := ?_) #[true, true, true, true, true, true, true, true, true, true, true, true, true, true, true, true] rfl rfl (by kernel_rfl) (fun _ _ _ h => h) (Or.inl ⟨by rfl, ?_⟩) ?_ ?_
  rotate_left
  · intro w'
    go_simp
    with_reducible rfl
  rotate_left
  · simp only [Act.put, List.setIfInBounds_toArray, List.set_cons_zero, List.set_cons_succ, i64_w, i32_w]
    rfl
  refine done_ (by kernel_rfl) ?_
  obtain ⟨w11, hw11⟩ : ∃ w11, w10.drew = w11 := ⟨_, rfl⟩
  have hd := hw11 ▸ below_drew1 (Below.refl w10.heap.size w10)
  have HP11 := Aside0.mk (blk_below HP10.out hd)
  have HK11 := Aside0.mk (blk_below HK10.out hd)
  have HB11 := Aside0.mk (below_step HB10.out hd)
  have HD11 := Aside0.mk (blk_below HD10.out hd)
  have HZ11 := Aside0.mk (blk_below HZ2.out HB11.out)
  have HRV11 := Aside0.mk (HRV2.out.below HB11.out)
  rw [hw11]
  clear hw11 hd hHeld HP10 HK10 HB10 HD10
  go_upto_region 5 with (fail)
  go_loopw [33] (fun v33 wr => ∃ j : Nat, j ≤ m ∧ v33 = .int .i64 (j : Int) ∧ Aside0 (wr.heap[b9]? = some (.cells (encC ((s.R.take j).foldl (pickC k) (lookC s.T.cells k))).toArray 45 (0, 0))) ∧ Aside0 (Ws (fun b => b = b9) w11 wr)) (fun v33 _ => m - (intOf v33).toNat)
  case atStart => exact ⟨0, Nat.zero_le _, rfl, ⟨by rw [List.take_zero]; show _ = some (Obj.cells (encC (lookC s.T.cells k)).toArray _ _); rw [HDS.out]; exact HD11.out⟩, ⟨Ws.refl _ _⟩⟩
  case round =>
    obtain ⟨j, hj, rfl, HCb, HWs⟩ := hrel
    have HKr : Aside0 (wr.heap[g]? = some (.cells ks.toArray 28)) := ⟨(HWs.out.block g (blk_lt HK11.out) (by have := HG9.out; omega)).trans HK11.out⟩
    obtain ⟨cj, hcj⟩ : ∃ cj, (s.R.take j).foldl (pickC k) (lookC s.T.cells k) = cj := ⟨_, rfl⟩
    have hcl : cj.key.length = 8 := hcj ▸ pick_len HKL.out.len _ _ (lookC_len HKL.out.len)
    rw [hcj] at HCb
    have HCJ := Aside0.mk hcj
    have HCL : Aside0 ((encC cj).length = 10) := ⟨encC_len hcl⟩
    have HC1 := Aside0.mk (encC_one cj)
    clear hcj hcl
    by_cases e1 : j < m
    · have e1' : decide ((j : Int) < (m : Int)) = true := decide_eq_true (by omega)
      have hjl : j < s.R.length := by have := HN.out; have := HM.out; omega
      have HWJ : Aside0 (wrap64 ((j : Int) + 1) = (j : Int) + 1) := ⟨by have := HM.out; unfold wrap64; omega⟩
      have hCr := (HRV11.out.ws HWs.out (fun b hb => .inr (by have := HG9.out; omega))).c
      obtain ⟨ad, hA, hkl, hcell⟩ := C_atR hCr j hjl
      subst hA
      obtain ⟨x, hx⟩ : ∃ x, s.R[j] = x := ⟨_, rfl⟩
      rw [hx] at hkl hcell
      have hmem : x ∈ s.R := hx ▸ List.getElem_mem _
      have hkx := HKy.out.rc x hmem
      have HTK : Aside0 ((s.R.take (j + 1)).foldl (pickC k) (lookC s.T.cells k) = pickC k cj x) := ⟨by rw [pick_snoc (x := x) (by rw [List.getElem?_eq_getElem hjl, hx]), HCJ.out]⟩
      obtain ⟨xs, hxs⟩ : ∃ xs, encR x = xs := ⟨_, rfl⟩
      obtain ⟨xk, hxk⟩ : ∃ xk, encK x.key = xk := ⟨_, rfl⟩
      obtain ⟨xv, hxv⟩ : ∃ xv, x.ver = xv := ⟨_, rfl⟩
      obtain ⟨xt, hxt⟩ : ∃ xt, x.val = xt := ⟨_, rfl⟩
      have HXT := Aside0.mk (And.intro hxv hxt)
      obtain ⟨r, hr⟩ : ∃ r, decide (x.key = k) = r := ⟨_, rfl⟩
      have HE : Aside0 (∀ w : World, (Op.equalIn 10000 28 (.agg xk.toArray) (.agg ks.toArray)).run Tryd.prog w = .ok r w) := ⟨fun w => by
        have := eqK hkx HKL.out w
        rw [hr] at this
        rw [← hxk, ← HKS.out]
        exact this⟩
      have HR := Aside0.mk hr
      have HXK : Aside0 (xk.length = 8) := ⟨hxk ▸ encK_len hkl⟩
      have HCell : Aside0 (∀ q v, xs[q]? = some v → wr.cell? ((ad.add (j * 14)).add q) = some v) := ⟨hxs ▸ hcell⟩
      have HLX : Aside0 (xs.length = 14) := ⟨hxs ▸ encR_len hkl⟩
      have HX1 : Aside0 (∀ v ∈ xs, v.oneCell' = true) := ⟨hxs ▸ encR_one x⟩
      have HRA : Aside0 (∀ (w' : World) (b : Nat), w'.heap[b]? = some (.cells xs.toArray 32 (0, 0)) → SegAt w' b 2 xk ∧ w'.cell? ⟨b, 10, none⟩ = some (.int .i64 xv) ∧ w'.cell? ⟨b, 11, none⟩ = some (.string xt)) := ⟨fun w' b h => by
        have RR := recAt (f := fun i => w'.cell? ⟨b, i, none⟩) hkl (hxs ▸ blk_get h)
        exact ⟨fun q v hq => RR.key q v (hxk ▸ hq), hxv ▸ RR.ver, hxt ▸ RR.val⟩⟩
      clear hx hkl hcell hmem hkx hxs hxk hxv hxt hr hCr
      go_upto_region 7 with (first
        | ((with_reducible refine gate_dst (N := 36) rfl ?_); go_must (refine wpList_at (P := Tryd.prog) rfl 32 (.tmp 35) rfl (ad.add (j * 14)) rfl xs (by rw [HLX.out]; exact aggR) HCell.out ?_))
        | ((with_reducible refine gate_ (.store 32 (.tmp 7) (.tmp 36)) rfl ?_); go_must (refine wpList_fill (P := Tryd.prog) rfl 32 (.tmp 7) (.tmp 36) rfl xs _ rfl rfl (by rw [HLX.out]; exact aggR) (by rw [HLX.out]; rfl) HX1.out ?_)))
      obtain ⟨w12, hw12⟩ : ∃ w12, wr.alloc (.cells xs.toArray 32) = w12 := ⟨_, rfl⟩
      have hb12 : Below wr.heap.size wr w12 := hw12 ▸ below_alloc (Below.refl _ _) _
      have HA12 := Aside0.mk (show w12.heap[wr.heap.size]? = some (.cells xs.toArray 32) from hw12 ▸ at_alloc wr _)
      have HK12 := Aside0.mk (blk_below HKr.out hb12)
      have HC12 := Aside0.mk (blk_below HCb.out hb12)
      have HW12 := Aside0.mk (HWs.out.trans (Ws.of_below hb12))
      rw [hw12]
      obtain ⟨b, hbb⟩ : ∃ b, wr.heap.size = b := ⟨_, rfl⟩
      rw [hbb] at HA12 ⊢
      have HRB := Aside0.mk (HRA.out w12 b HA12.out)
      have r10 := HRB.out.2.1
      have r11 := HRB.out.2.2
      clear hw12 hb12 hbb HRA
      cases r with
      | false =>
        have hpk : pickC k cj x = cj := by unfold pickC; exact if_neg (of_decide_eq_false HR.out)
        have HPK := Aside0.mk hpk
        clear hpk
        go_wp2_with (first
          | ((with_reducible refine gate_dst (N := 38) rfl ?_); go_must (refine wpList_seg (P := Tryd.prog) rfl 28 (.tmp 37) rfl b 2 rfl xk (by rw [HXK.out]; exact aggK) HRB.out.1 ?_))
          | ((with_reducible refine gate_dst (N := 39) rfl ?_); go_must (refine wpList_seg (P := Tryd.prog) rfl 28 (.tmp 3) rfl g 0 rfl ks (by rw [HLK.out]; exact aggK) (SegAt.blk (t := 28) (fr := (0, 0)) HK12.out) ?_))
          | (rw [HE.out]; simp only [Result.andThen]; rw [Oper.upon_value]))
        rw [HWJ.out]
        exact ⟨⟨j + 1, by omega, by push_cast; rfl, ⟨by rw [HTK.out, HPK.out]; exact HC12.out⟩, HW12⟩, by simp [intOf]; omega⟩
      | true =>
        have hpk : pickC k cj x = ⟨k, xv, xt⟩ := by unfold pickC; rw [if_pos (of_decide_eq_true HR.out), HXT.out.1, HXT.out.2]
        have HPK := Aside0.mk hpk
        have HBU := Aside0.mk (builtC HKL.out.len xv xt)
        have HEL : Aside0 ((encC ⟨k, xv, xt⟩).length = 10) := ⟨encC_len HKL.out.len⟩
        have HE1 := Aside0.mk (encC_one ⟨k, xv, xt⟩)
        have HBU2 : Aside0 (Tryd.prog.built 45 [(0, .agg ks.toArray), (1, .int .i64 xv), (2, .string xt)] = some (encC ⟨k, xv, xt⟩).toArray) := ⟨HKS.out ▸ HBU.out⟩
        obtain ⟨es, hes⟩ : ∃ es, encC ⟨k, xv, xt⟩ = es := ⟨_, rfl⟩
        rw [hes] at HEL HE1 HBU2
        have HES := Aside0.mk hes
        clear hpk HBU hes
        go_wp2_with (first
          | ((with_reducible refine gate_dst (N := 38) rfl ?_); go_must (refine wpList_seg (P := Tryd.prog) rfl 28 (.tmp 37) rfl b 2 rfl xk (by rw [HXK.out]; exact aggK) HRB.out.1 ?_))
          | ((with_reducible refine gate_dst (N := 39) rfl ?_); go_must (refine wpList_seg (P := Tryd.prog) rfl 28 (.tmp 3) rfl g 0 rfl ks (by rw [HLK.out]; exact aggK) (SegAt.blk (t := 28) (fr := (0, 0)) HK12.out) ?_))
          | ((with_reducible refine gate_dst (N := 41) rfl ?_); go_must (refine wpList_seg (P := Tryd.prog) rfl 28 (.tmp 3) rfl g 0 rfl ks (by rw [HLK.out]; exact aggK) (SegAt.blk (t := 28) (fr := (0, 0)) HK12.out) ?_))
          | ((with_reducible refine gate_dst (N := 46) rfl ?_); go_must (refine wpList_built (P := Tryd.prog) rfl 45 _ rfl [(0, .agg ks.toArray), (1, .int .i64 xv), (2, .string xt)] (by simp only [List.map_toArray, List.map_cons, List.map_nil]; rfl) _ HBU2.out ?_))
          | ((with_reducible refine gate_ (.store 45 (.tmp 5) (.tmp 46)) rfl ?_); go_must (refine wpList_row (P := Tryd.prog) rfl 45 (.tmp 5) (.tmp 46) rfl b9 _ 45 HC12.out es rfl rfl (by rw [HEL.out]; exact aggC) (by rw [List.size_toArray, HCL.out, HEL.out]) HE1.out ?_); intro w13 q1 q2 q3)
          | (rw [HE.out]; simp only [Result.andThen]; rw [Oper.upon_value]))
        rw [HWJ.out]
        exact ⟨⟨j + 1, by omega, by push_cast; rfl, ⟨by rw [HTK.out, HPK.out, HES.out]; exact q3⟩, ⟨HW12.out.trans (Ws.of_grown (P := fun b => b = b9) q1 rfl)⟩⟩, by simp [intOf]; omega⟩
    · have e1' : decide ((j : Int) < (m : Int)) = false := decide_eq_false (by omega)
      have hjm : j = m := by omega
      have ho := HOut.out
      rw [← hjm, HCJ.out] at ho
      subst ho
      obtain ⟨es, hes⟩ : ∃ es, encC cj = es := ⟨_, rfl⟩
      rw [hes] at HCL HC1 HCb
      have HES := Aside0.mk hes
      have HZr : Aside0 (wr.heap[g + 1]? = some (.cells zCel.toArray 45)) := ⟨(HWs.out.block (g + 1) (blk_lt HZ11.out) (by have := HG9.out; have := HSZ.out; omega)).trans HZ11.out⟩
      clear hjm hes
      go_wp2_with (first
        | ((with_reducible refine gate_dst (N := 48) rfl ?_); go_must (refine wpList_seg (P := Tryd.prog) rfl 45 (.tmp 5) rfl b9 0 rfl es (by rw [HCL.out]; exact aggC) (SegAt.blk (t := 45) (fr := (0, 0)) HCb.out) ?_))
        | ((with_reducible refine gate_ (.store 45 (.tmp 4) (.tmp 48)) rfl ?_); go_must (refine wpList_row (P := Tryd.prog) rfl 45 (.tmp 4) (.tmp 48) rfl (g + 1) _ 45 HZr.out es rfl rfl (by rw [HCL.out]; exact aggC) (by rw [HCL.out]; rfl) HC1.out ?_); intro w13 q1 q2 q3))
      refine bodyPost_ret (results_c rfl _ _ (g + 1) 45 es.toArray (0, 0) _ (by rfl) q3 Tryd.underlying45 rfl (by rw [List.size_toArray, HCL.out]; kernel_rfl)) rfl ?_
      have hz := HSZ.out
      have hb := HG9.out
      have h11 : Below w.heap.size w w11 := below_then HB2.out HB2.out.size HB11.out
      have hr : Below w.heap.size w wr := HWs.out.below h11 (fun b hb => by omega)
      exact ⟨by rw [HES.out], pw_below_grown hr _ hr.size q1 (fun k e => by injection e with e; omega)⟩
end
end Go.Proofs.YtgmaedngkhidlaaDoor.Sf
-- SgI
namespace Go.Proofs.YtgmaedngkhidlaaDoor.Sf
open Go Go.RowKit Go.ChangeMaps Go.MapKept Go.Proofs.YtgmaedngkhidlaaDoorW.PrintWords Go.Proofs.YtgmaedngkhidlaaDoorW.PrintLast Go.Proofs.YtgmaedngkhidlaaDoorW.PrintMore
open Go.Maps (Keyed)
set_option linter.unusedVariables false
set_option linter.unusedSimpArgs false
abbrev kQ : Kd Dq := flat encQ 29 encQ_one
theorem C_atQ {A : Option Addr} {n : Nat} {R : List Dq} {w : World} (h : kQ.C w A n R) (hk : ∀ x ∈ R, x.key.length = 8) (i : Nat) (hi : i < R.length) : ∃ ad, A = some ad ∧ DoAt (fun j => w.cell? ((ad.add (i * 29)).add j)) R[i] := by
  obtain ⟨hn, _, hc0⟩ := h
  obtain ⟨ad, rfl, hc1⟩ := hc0 (by omega)
  obtain ⟨cs, hl, ⟨he, hl2⟩, hcc⟩ := hc1 i R[i] (List.getElem?_eq_getElem hi)
  refine ⟨ad, rfl, doAt (hk _ (List.getElem_mem hi)) fun j v hj => ?_⟩
  rw [add_add]
  exact hcc j v (by rw [he]; exact hj)
set_option maxHeartbeats 4000000 in
set_option maxRecDepth 100000 in
theorem short_calls (ad : Addr) (L c : Nat) (w : World) (hL : L ≤ 9223372036854775807) (hrow : ∀ i, i < L → ∃ A l cc, w.cell? (ad.add i) = some (.slice A l.length cc) ∧ kQ.C w A l.length l ∧ (∀ x ∈ l, x.key.length = 8 ∧ x.x.key.length = 8)) :
    Calls Tryd.prog 13 #[.slice (some ad) L c] w fun e w' => IsB e ∧ Drawn0 w w' := by
  have HR := Aside0.mk hrow
  clear hrow
  go_enter Tryd.func13, Tryd.ntmps13
  go_wp2_with (fail)
  go_loopw [3, 4, 10] (fun v3 v4 v10 wr => ∃ (x y : Int) (j : Nat), v3 = .int .i64 x ∧ v4 = .int .i64 y ∧ v10 = .int .i64 (j : Int) ∧ j ≤ L ∧ Drawn0 w wr) (fun v3 v4 v10 _ => L - (intOf v10).toNat)
  case atStart => exact ⟨0, 0, 0, rfl, rfl, rfl, Nat.zero_le _, Drawn0.refl _⟩
  case round =>
    obtain ⟨x, y, j, rfl, rfl, rfl, hj, ⟨n1, rfl⟩⟩ := hrel
    have hwj : wrap64 ((j : Int) + 1) = (j : Int) + 1 ∨ ¬ j < L := by
      by_cases e : j < L
      · exact .inl (by unfold wrap64; omega)
      · exact .inr e
    by_cases c1 : j < L
    · replace hwj := hwj.resolve_right (fun e => e c1)
      have d1 : decide ((j : Int) < (L : Int)) = true := decide_eq_true (by omega)
      obtain ⟨A, l, cc, hcell, hC, hkk⟩ := HR.out j c1
      have HC := Aside0.mk hC
      have HKK := Aside0.mk hkk
      clear hC hkk
      go_wp2_with (fail)
      go_loopw [3, 4, 7] (fun v3 v4 v7 wr => ∃ (x y : Int) (q : Nat), v3 = .int .i64 x ∧ v4 = .int .i64 y ∧ v7 = .int .i64 (q : Int) ∧ q ≤ l.length ∧ Drawn0 w wr) (fun v3 v4 v7 _ => l.length - (intOf v7).toNat)
      case atStart => exact ⟨x, y, 0, rfl, rfl, rfl, Nat.zero_le _, ⟨_, rfl⟩⟩
      case round =>
        obtain ⟨x, y, q, rfl, rfl, rfl, hq, ⟨n2, rfl⟩⟩ := hrel
        by_cases c2 : q < l.length
        · have d2 : decide ((q : Int) < (l.length : Int)) = true := decide_eq_true (by omega)
          by_cases c3 : y ≤ 120
          · have d3 : decide (y ≤ 120) = true := decide_eq_true c3
            by_cases c4 : x ≤ 8192
            · have d4 : decide (x ≤ 8192) = true := decide_eq_true c4
              obtain ⟨ad2, hA, hD⟩ := C_atQ HC.out (fun z hz => (HKK.out z hz).1) q c2
              subst hA
              have hx2 := (HKK.out _ (List.getElem_mem c2)).2
              have r12 : w.cell? ⟨(ad2.add (q * 29)).block, (ad2.add (q * 29)).off + 12, none⟩ = some (.string (l[q]).val) := by
                have := hD.val
                rw [add_pos ad2 (q * 29) 12 (by decide)] at this
                exact this
              have r26 : w.cell? ⟨(ad2.add (q * 29)).block, (ad2.add (q * 29)).off + 26, none⟩ = some (.string (l[q]).x.val) := by
                have := (recAt (f := fun j => w.cell? ((ad2.add (q * 29)).add (15 + j))) hx2 hD.x).val
                rw [add_pos ad2 (q * 29) (15 + 11) (by decide)] at this
                exact this
              obtain ⟨va, hva⟩ : ∃ va, (l[q]).val = va := ⟨_, rfl⟩
              obtain ⟨vb, hvb⟩ : ∃ vb, (l[q]).x.val = vb := ⟨_, rfl⟩
              rw [hva] at r12
              rw [hvb] at r26
              clear hD hx2 hva hvb
              have hwq : wrap64 ((q : Int) + 1) = (q : Int) + 1 := by have := HC.out.2.1; unfold wrap64; omega
              go_wp2_with (fail)
              go_quiet (fail)
              go_wp2_with (fail)
              rw [hwq]
              exact ⟨⟨_, _, q + 1, rfl, rfl, by push_cast; rfl, by omega, ⟨_, rfl⟩⟩, by simp [intOf]; omega⟩
            · have d4 : decide (x ≤ 8192) = false := decide_eq_false c4
              go_wp2_with (fail)
              exact ⟨⟨x, y, j + 1, rfl, rfl, by push_cast; rfl, by omega, ⟨_, rfl⟩⟩, by simp [intOf]; omega⟩
          · have d3 : decide (y ≤ 120) = false := decide_eq_false c3
            go_wp2_with (fail)
            exact ⟨⟨x, y, j + 1, rfl, rfl, by push_cast; rfl, by omega, ⟨_, rfl⟩⟩, by simp [intOf]; omega⟩
        · have d2 : decide ((q : Int) < (l.length : Int)) = false := decide_eq_false (by omega)
          go_wp2_with (fail)
          exact ⟨⟨x, y, j + 1, rfl, rfl, by push_cast; rfl, by omega, ⟨_, rfl⟩⟩, by simp [intOf]; omega⟩
    · have d1 : decide ((j : Int) < (L : Int)) = false := decide_eq_false (by omega)
      by_cases c2 : y ≤ 120
      · have d2 : decide (y ≤ 120) = true := decide_eq_true c2
        go_wp2_with (fail)
        go_ret
        exact ⟨⟨⟨_, rfl⟩⟩, ⟨_, rfl⟩⟩
      · have d2 : decide (y ≤ 120) = false := decide_eq_false c2
        go_wp2_with (fail)
        go_ret
        exact ⟨⟨⟨_, rfl⟩⟩, ⟨_, rfl⟩⟩
end Go.Proofs.YtgmaedngkhidlaaDoor.Sf
-- SgJ
namespace Go.Proofs.YtgmaedngkhidlaaDoor.Sf
open Go Go.RowKit Go.ChangeMaps Go.MapKept Go.Proofs.YtgmaedngkhidlaaDoorW.PrintWords Go.Proofs.YtgmaedngkhidlaaDoorW.PrintLast Go.Proofs.YtgmaedngkhidlaaDoorW.PrintMore
open Go.Maps (Keyed)
set_option linter.unusedVariables false
set_option linter.unusedSimpArgs false
theorem C_atD {A : Option Addr} {n : Nat} {R : List Don} {w : World} (h : kD.C w A n R) (i : Nat) (hi : i < R.length) : ∃ ad, A = some ad ∧ ∀ j v, (encD R[i])[j]? = some v → w.cell? ((ad.add (i * 3)).add j) = some v := by
  obtain ⟨hn, _, hc0⟩ := h
  obtain ⟨ad, rfl, hc1⟩ := hc0 (by omega)
  obtain ⟨cs, hl, ⟨he, hl2⟩, hcc⟩ := hc1 i R[i] (List.getElem?_eq_getElem hi)
  refine ⟨ad, rfl, fun j v hj => ?_⟩
  rw [add_add]
  exact hcc j v (by rw [he]; exact hj)
end Go.Proofs.YtgmaedngkhidlaaDoor.Sf
-- SgO
namespace Go.Proofs.YtgmaedngkhidlaaDoor.Sf
open Go Go.RowKit Go.ChangeMaps Go.MapKept Go.Proofs.YtgmaedngkhidlaaDoorW.PrintWords Go.Proofs.YtgmaedngkhidlaaDoorW.PrintLast Go.Proofs.YtgmaedngkhidlaaDoorW.PrintMore
open Go.Maps (Keyed)
set_option linter.unusedVariables false
set_option linter.unusedSimpArgs false
theorem aggTb : AggT Tryd.prog 25 4 := ⟨⟨_, Tryd.underlying25, rfl⟩, by kernel_rfl⟩
section
variable {P : Program} {o : Oper} {a : Act} {w : World}
end
end Go.Proofs.YtgmaedngkhidlaaDoor.Sf
-- SgP
namespace Go.Proofs.YtgmaedngkhidlaaDoor.Sf
open Go Go.RowKit Go.ChangeMaps Go.MapKept Go.Proofs.YtgmaedngkhidlaaDoorW.PrintWords Go.Proofs.YtgmaedngkhidlaaDoorW.PrintLast Go.Proofs.YtgmaedngkhidlaaDoorW.PrintMore
open Go.Maps (Keyed)
set_option linter.unusedVariables false
set_option linter.unusedSimpArgs false
theorem aggDo : AggT Tryd.prog 34 29 := ⟨⟨_, Tryd.underlying34, rfl⟩, by kernel_rfl⟩
structure QOk (k : Dq) : Prop where
  key : KeyL k.key
  xkey : KeyL k.x.key
  val : k.val.size ≤ 9223372036854775807
  xval : k.x.val.size ≤ 9223372036854775807
  cl : (Lit.int .i64 k.client).wf = true
  xcl : (Lit.int .i64 k.x.client).wf = true
  i : (Lit.int .i64 k.i).wf = true
section
variable {F G : Nat → Prop} {p : Nat} {s : Sh}
end
end Go.Proofs.YtgmaedngkhidlaaDoor.Sf
-- SgQ
namespace Go.Proofs.YtgmaedngkhidlaaDoor.Sf
open Go Go.RowKit Go.ChangeMaps Go.MapKept Go.Proofs.YtgmaedngkhidlaaDoorW.PrintWords Go.Proofs.YtgmaedngkhidlaaDoorW.PrintLast Go.Proofs.YtgmaedngkhidlaaDoorW.PrintMore
open Go.Maps (Keyed)
set_option linter.unusedVariables false
set_option linter.unusedSimpArgs false
end Go.Proofs.YtgmaedngkhidlaaDoor.Sf
-- SgT
namespace Go.Proofs.YtgmaedngkhidlaaDoor.Sf
open Go Go.RowKit Go.ChangeMaps Go.MapKept Go.Proofs.YtgmaedngkhidlaaDoorW.PrintWords Go.Proofs.YtgmaedngkhidlaaDoorW.PrintLast Go.Proofs.YtgmaedngkhidlaaDoorW.PrintMore
open Go.Maps (Keyed)
set_option linter.unusedVariables false
set_option linter.unusedSimpArgs false
def tA : ByteArray := ⟨#[97]⟩
def tX : ByteArray := ⟨#[120]⟩
def tY : ByteArray := ⟨#[121]⟩
def kA : List Int := [97, 0, 0, 0, 0, 0, 0, 0]
def xA : Rc := ⟨1, 1, kA, 1, tX, 0, 1⟩
def sA : Sh := ⟨sh0.T, [xA], 0⟩
def sB : Sh := ⟨sh0.T, [xA], 1⟩
theorem keyA : keyP tA = (kA, 0) := by kernel_rfl
theorem kA_L : KeyL kA := ⟨rfl, by decide⟩
theorem nextA : nextP sh0 1 kA tX 0 1 = (xA, 0) := by kernel_rfl
theorem addA : addP sh0 xA = (sA, 0) := by kernel_rfl
theorem nextB : nextP sA 1 kA tY 0 1 = (zR, 153) := by kernel_rfl
theorem cleanA : cleanP sA kA = zC := by kernel_rfl
theorem settleA : settleP sA 1 = (sB, 0) := by kernel_rfl
theorem cleanB : cleanP sB kA = ⟨kA, 1, tX⟩ := by kernel_rfl
theorem eqZK (w : World) : (Op.equalIn 9999 28 (.agg #[.int .u8 0, .int .u8 0, .int .u8 0, .int .u8 0, .int .u8 0, .int .u8 0, .int .u8 0, .int .u8 0]) (.agg #[.int .u8 0, .int .u8 0, .int .u8 0, .int .u8 0, .int .u8 0, .int .u8 0, .int .u8 0, .int .u8 0])).run Tryd.prog w = .ok true w := by kernel_rfl
theorem wf0 : Wf sh0 := Wf.new (t := ⟨0, 0, [], []⟩) (check_ok.1 (by kernel_rfl))
theorem wfA : Wf sA := by
  have := wf0.add xA
  rw [addA] at this
  exact this
theorem wfB : Wf sB := by
  have := wfA.settle 1
  rw [settleA] at this
  exact this
theorem kyA : Ky sA := ⟨fun c hc => (by cases hc), fun x hx => (by rw [List.mem_singleton.1 hx]; exact kA_L)⟩
theorem kyB : Ky sB := ⟨fun c hc => (by cases hc), kyA.rc⟩
set_option maxHeartbeats 8000000 in
set_option maxRecDepth 100000 in
theorem awake_calls (w : World) (hT : Tabs w) : Calls Tryd.prog 15 #[] w fun e w' => e = .returned (.bool true) ∧ Below w.heap.size w w' := by
  obtain ⟨ks, hks⟩ : ∃ ks, encK kA = ks := ⟨_, rfl⟩
  obtain ⟨xs, hxs⟩ : ∃ xs, encR xA = xs := ⟨_, rfl⟩
  have HKEY : Aside0 (∀ w' : World, Calls Tryd.prog 49 #[.string ⟨#[97]⟩] w' fun e w'' => e = .returned (.agg ks.toArray) ∧ Below w'.heap.size w' w'') := ⟨fun w' => by
    have := key_calls tA w'
    rw [keyA] at this
    exact hks ▸ this⟩
  have HN1 : Aside0 (∀ {F G : Nat → Prop} {p : Nat} (w' : World), IsS F G w' p sh0 → Tabs w' → Calls Tryd.prog 17 #[.pointer (some ⟨p, 0, none⟩), .int .i64 1, .agg ks.toArray, .string ⟨#[120]⟩, vQ 0 1] w' fun e w'' => e = .returned (.tuple #[.agg xs.toArray, .int .i64 0]) ∧ Below w'.heap.size w' w'') := ⟨fun w' h' ht => by
    have := Next_calls 1 kA tX 0 1 w' h' wf0 kA_L (by decide) rfl ht
    rw [nextA] at this
    exact hks ▸ hxs ▸ this⟩
  have HADD : Aside0 (∀ {F G : Nat → Prop} {p : Nat} (w' : World), IsS F G w' p sh0 → (∀ k, G k → k < w'.heap.size) → Tabs w' → Calls Tryd.prog 21 #[.pointer (some ⟨p, 0, none⟩), .agg xs.toArray] w' fun e w'' => e = .returned (.int .i64 0) ∧ Ws F w' w'' ∧ IsS F G w'' p sA) := ⟨fun w' h' hg ht => by
    have := Add_calls xA w' h' hg wf0 kA_L (by decide) rfl ht
    rw [addA] at this
    exact hxs ▸ this⟩
  have HN2 : Aside0 (∀ {F G : Nat → Prop} {p : Nat} (w' : World), IsS F G w' p sA → Tabs w' → Calls Tryd.prog 17 #[.pointer (some ⟨p, 0, none⟩), .int .i64 1, .agg ks.toArray, .string ⟨#[121]⟩, vQ 0 1] w' fun e w'' => e = .returned (.tuple #[.agg zRow.toArray, .int .i64 153]) ∧ Below w'.heap.size w' w'') := ⟨fun w' h' ht => by
    have := Next_calls 1 kA tY 0 1 w' h' wfA kA_L (by decide) rfl ht
    rw [nextB] at this
    exact hks ▸ this⟩
  have HC1 : Aside0 (∀ {F G : Nat → Prop} {p : Nat} (w' : World), IsS F G w' p sA → Calls Tryd.prog 37 #[.pointer (some ⟨p, 0, none⟩), .agg ks.toArray] w' fun e w'' => e = .returned (.agg zCel.toArray) ∧ Below w'.heap.size w' w'') := ⟨fun w' h' => by
    have := Clean_calls kA w' h' wfA kyA kA_L
    rw [cleanA] at this
    exact hks ▸ this⟩
  have HSE : Aside0 (∀ {F G : Nat → Prop} {p : Nat} (w' : World), IsS F G w' p sA → Calls Tryd.prog 50 #[.pointer (some ⟨p, 0, none⟩), .int .i64 1] w' fun e w'' => e = .returned (.int .i64 0) ∧ Ws F w' w'' ∧ IsS F G w'' p sB) := ⟨fun w' h' => by
    have := Settle_calls 1 w' h' wfA
    rw [settleA] at this
    exact this⟩
  have HC2 : Aside0 (∀ {F G : Nat → Prop} {p : Nat} (w' : World), IsS F G w' p sB → Calls Tryd.prog 37 #[.pointer (some ⟨p, 0, none⟩), .agg ks.toArray] w' fun e w'' => e = .returned (vC ⟨kA, 1, ⟨#[120]⟩⟩) ∧ Below w'.heap.size w' w'') := ⟨fun w' h' => by
    have := Clean_calls kA w' h' wfB kyB kA_L
    rw [cleanB] at this
    exact hks ▸ this⟩
  have HDI : Aside0 (∀ {F G : Nat → Prop} {p : Nat} (w' : World), IsS F G w' p sB → Calls Tryd.prog 36 #[.pointer (some ⟨p, 0, none⟩)] w' fun e w'' => e = .returned (.int .i64 0) ∧ Drawn0 w' w'') := ⟨fun w' h' => Dirty_calls h' wfB⟩
  have HXL : Aside0 (xs.length = 14) := ⟨hxs ▸ rfl⟩
  have HX1 : Aside0 (∀ v ∈ xs, v.oneCell' = true) := ⟨hxs ▸ encR_one xA⟩
  have HXA : Aside0 (∀ (w' : World) (b : Nat), w'.heap[b]? = some (.cells xs.toArray 32 (0, 0)) → w'.cell? ⟨b, 0, none⟩ = some (.int .i64 1) ∧ w'.cell? ⟨b, 10, none⟩ = some (.int .i64 1)) := ⟨fun w' b h => by
    have R := recAt (f := fun j => w'.cell? ⟨b, j, none⟩) (x := xA) rfl (hxs ▸ blk_get h)
    exact ⟨R.idx, R.ver⟩⟩
  have HT := Aside0.mk hT
  have HBQ : Aside0 (Tryd.prog.built 30 [(0, .int .i64 0), (1, .int .i64 1)] = some #[.int .i64 0, .int .i64 1]) := ⟨by kernel_rfl⟩
  have HBC : Aside0 (Tryd.prog.built 45 [] = some zCel.toArray) := ⟨by kernel_rfl⟩
  have HZ1 : Aside0 (∀ v ∈ zCel, v.oneCell' = true) := ⟨encC_one zC⟩
  clear hks hxs hT
  go_enter Tryd.func15, Tryd.ntmps15
  go_upto_region 2 with (go_at_call 48; refine (New_calls w).mono ?_; rintro e w1 ⟨p, rfl, hb1, hn1⟩)
  obtain ⟨F, hF⟩ : ∃ F : Nat → Prop, (fun k => w.heap.size ≤ k ∧ k < w1.heap.size) = F := ⟨_, rfl⟩
  have HF : Aside0 (∀ k, F k → w.heap.size ≤ k ∧ k < w1.heap.size) := ⟨fun k hk => by rw [← hF] at hk; exact hk⟩
  have HI1 : Aside0 (IsS F F w1 p sh0) := ⟨by have := hn1 F (fun k h1 h2 => by rw [← hF]; exact ⟨h1, h2⟩); rw [hF] at this; exact this⟩
  have HB1 := Aside0.mk hb1
  have HT1 := Aside0.mk (HT.out.below hb1)
  clear hF hn1 hb1
  go_upto_region 3 with (first
    | (go_at_call 49; refine (HKEY.out w1).mono ?_; rintro e w2 ⟨rfl, hb2⟩; have HB2 := Aside0.mk hb2; clear hb2)
    | ((with_reducible refine gate_dst (N := 11) rfl ?_); go_must (refine wpList_built (P := Tryd.prog) rfl 30 _ rfl [(0, .int .i64 0), (1, .int .i64 1)] (by simp only [List.map_toArray, List.map_cons, List.map_nil]; rfl) _ HBQ.out ?_))
    | (go_at_call 17; refine (HN1.out w2 (HI1.out.below HB2.out) (HT1.out.below HB2.out)).mono ?_; rintro e w3 ⟨rfl, hb3⟩; have HB3 := Aside0.mk hb3; clear hb3)
    | ((with_reducible refine gate_ (.store 32 (.tmp 2) (.tmp 13)) rfl ?_); go_must (refine wpList_fill (P := Tryd.prog) rfl 32 (.tmp 2) (.tmp 13) rfl xs _ rfl rfl (by rw [HXL.out]; exact aggR) (by rw [HXL.out]; rfl) HX1.out ?_)))
  obtain ⟨w4, hw4⟩ : ∃ w4, w3.alloc (.cells xs.toArray 32) = w4 := ⟨_, rfl⟩
  have hb4 : Below w3.heap.size w3 w4 := hw4 ▸ below_alloc (Below.refl _ _) _
  have hA4 : w4.heap[w3.heap.size]? = some (.cells xs.toArray 32) := hw4 ▸ at_alloc w3 _
  have hb14 := below_then HB2.out HB2.out.size (below_then HB3.out HB3.out.size hb4)
  have HI4 := Aside0.mk (HI1.out.below hb14)
  have HT4 := Aside0.mk (HT1.out.below hb14)
  have HB4 := Aside0.mk (below_then HB1.out HB1.out.size hb14)
  have HA4 := Aside0.mk hA4
  have HG4 : Aside0 (∀ k, F k → k < w4.heap.size) := ⟨fun k hk => Nat.lt_of_lt_of_le (HF.out k hk).2 hb14.size⟩
  rw [hw4]
  obtain ⟨b, hb⟩ : ∃ b, w3.heap.size = b := ⟨_, rfl⟩
  rw [hb] at HA4 ⊢
  have r0 := (HXA.out w4 b HA4.out).1
  have r10 := (HXA.out w4 b HA4.out).2
  clear hw4 hb4 hA4 hb14 hb HB2 HB3 HI1 HT1
  go_upto_region 5 with (first
    | ((with_reducible refine gate_dst (N := 29) rfl ?_); refine gate_guard (by rfl) ?_; go_must (refine wpList_seg (P := Tryd.prog) rfl 32 (.tmp 2) rfl b 0 rfl xs (by rw [HXL.out]; exact aggR) (SegAt.blk (t := 32) (fr := (0, 0)) HA4.out) ?_))
    | (go_at_call 21; refine (HADD.out w4 HI4.out HG4.out HT4.out).mono ?_; rintro e w5 ⟨rfl, H5⟩; have H5 := Aside0.mk H5))
  have HI5 := Aside0.mk H5.out.2
  have HB5 := Aside0.mk (H5.out.1.below HB4.out (fun k hk => (HF.out k hk).1))
  have HT5 := Aside0.mk (HT.out.below HB5.out)
  clear r0 r10 HA4 HI4 HT4 HB4 H5
  go_upto_region 6 with (first
    | (go_at_call 49; refine (HKEY.out w5).mono ?_; rintro e w6 ⟨rfl, hb6⟩; have HB6 := Aside0.mk hb6; clear hb6)
    | ((with_reducible refine gate_dst (N := 36) rfl ?_); go_must (refine wpList_built (P := Tryd.prog) rfl 30 _ rfl [(0, .int .i64 0), (1, .int .i64 1)] (by simp only [List.map_toArray, List.map_cons, List.map_nil]; rfl) _ HBQ.out ?_))
    | (go_at_call 17; refine (HN2.out w6 (HI5.out.below HB6.out) (HT5.out.below HB6.out)).mono ?_; rintro e w7 ⟨rfl, hb7⟩; have HB7 := Aside0.mk hb7; clear hb7)
    | ((with_reducible refine gate_ (.store 32 (.tmp 4) (.tmp 38)) rfl ?_); go_must (refine wpList_fill (P := Tryd.prog) rfl 32 (.tmp 4) (.tmp 38) rfl zRow _ rfl rfl aggR rfl (zRow_eq ▸ encR_one zR) ?_)))
  obtain ⟨w8, hw8⟩ : ∃ w8, w7.alloc (.cells zRow.toArray 32) = w8 := ⟨_, rfl⟩
  have hb8 : Below w7.heap.size w7 w8 := hw8 ▸ below_alloc (Below.refl _ _) _
  have hb58 := below_then HB6.out HB6.out.size (below_then HB7.out HB7.out.size hb8)
  have HI8 := Aside0.mk (HI5.out.below hb58)
  have HB8 := Aside0.mk (below_then HB5.out HB5.out.size hb58)
  rw [hw8]
  obtain ⟨b4, hb4⟩ : ∃ b4, w7.heap.size = b4 := ⟨_, rfl⟩
  rw [hb4]
  clear hw8 hb8 hb58 hb4 HB6 HB7 HI5 HT5 HB5
  go_upto_region 7 with (first
    | (go_at_call 49; refine (HKEY.out w8).mono ?_; rintro e w9 ⟨rfl, hb9⟩; have HB9 := Aside0.mk hb9; clear hb9)
    | (go_at_call 37; refine (HC1.out w9 (HI8.out.below HB9.out)).mono ?_; rintro e w10 ⟨rfl, hb10⟩; have HB10 := Aside0.mk hb10; clear hb10)
    | ((with_reducible refine gate_ (.store 45 (.tmp 6) (.tmp 42)) rfl ?_); go_must (refine wpList_fill (P := Tryd.prog) rfl 45 (.tmp 6) (.tmp 42) rfl zCel _ rfl rfl aggC rfl HZ1.out ?_)))
  obtain ⟨w11, hw11⟩ : ∃ w11, w10.alloc (.cells zCel.toArray 45) = w11 := ⟨_, rfl⟩
  have hb11 : Below w10.heap.size w10 w11 := hw11 ▸ below_alloc (Below.refl _ _) _
  have hA11 : w11.heap[w10.heap.size]? = some (.cells zCel.toArray 45) := hw11 ▸ at_alloc w10 _
  have hb811 := below_then HB9.out HB9.out.size (below_then HB10.out HB10.out.size hb11)
  have HI11 := Aside0.mk (HI8.out.below hb811)
  have HB11 := Aside0.mk (below_then HB8.out HB8.out.size hb811)
  have HA11 := Aside0.mk hA11
  rw [hw11]
  obtain ⟨b6, hb6⟩ : ∃ b6, w10.heap.size = b6 := ⟨_, rfl⟩
  rw [hb6] at HA11 ⊢
  clear hw11 hb11 hA11 hb811 hb6 HB9 HB10 HI8 HB8
  go_wp2_with (first
    | ((with_reducible refine gate_dst (N := 46) rfl ?_); refine gate_guard (by rfl) ?_; go_must (refine wpList_seg (P := Tryd.prog) rfl 45 (.tmp 6) rfl b6 0 rfl zCel aggC (SegAt.blk (t := 45) (fr := (0, 0)) HA11.out) ?_))
    | ((with_reducible refine gate_dst (N := 47) rfl ?_); refine gate_guard (by rfl) ?_; go_must (refine wpList_built (P := Tryd.prog) rfl 45 _ rfl [] (by simp) _ HBC.out ?_))
    | (rw [eqZK]; simp only [Result.andThen, Bool.true_eq_false, ↓reduceIte]; rw [Oper.upon_value])
    | (go_at_call 50; refine (HSE.out w11 HI11.out).mono ?_; rintro e w12 ⟨rfl, H12⟩; have H12 := Aside0.mk H12)
    | (go_at_call 49; refine (HKEY.out w12).mono ?_; rintro e w13 ⟨rfl, hb13⟩; have HB13 := Aside0.mk hb13; clear hb13)
    | (go_at_call 37; refine (HC2.out w13 (H12.out.2.below HB13.out)).mono ?_; rintro e w14 ⟨rfl, hb14⟩; have HB14 := Aside0.mk hb14; clear hb14)
    | (rw [field_C2 kA_L.len 1 ⟨#[120]⟩]; simp only [Result.andThen]; rw [Oper.upon_value])
    | (go_at_call 36; refine (HDI.out w14 ((H12.out.2.below HB13.out).below HB14.out)).mono ?_; rintro e w15 ⟨rfl, ⟨nd, rfl⟩⟩))
  go_ret
  have h12 := H12.out.1.below HB11.out (fun k hk => (HF.out k hk).1)
  have h14 := below_then h12 h12.size (below_then HB13.out HB13.out.size HB14.out)
  exact ⟨rfl, below_then h14 h14.size (pw_below_drewN (Below.refl _ _) nd)⟩
end Go.Proofs.YtgmaedngkhidlaaDoor.Sf
-- SgU
namespace Go.Proofs.YtgmaedngkhidlaaDoor.Sf
open Go Go.RowKit Go.ChangeMaps Go.MapKept Go.Proofs.YtgmaedngkhidlaaDoorW.PrintWords Go.Proofs.YtgmaedngkhidlaaDoorW.PrintLast Go.Proofs.YtgmaedngkhidlaaDoorW.PrintMore
open Go.Maps (Keyed)
set_option linter.unusedVariables false
set_option linter.unusedSimpArgs false
theorem len29 : ∀ {k : List Value}, k.length = 29 → ∃ a0 a1 a2 a3 a4 a5 a6 a7 a8 a9 b0 b1 b2 b3 b4 b5 b6 b7 b8 b9 c0 c1 c2 c3 c4 c5 c6 c7 c8, k = [a0, a1, a2, a3, a4, a5, a6, a7, a8, a9, b0, b1, b2, b3, b4, b5, b6, b7, b8, b9, c0, c1, c2, c3, c4, c5, c6, c7, c8]
  | [a0, a1, a2, a3, a4, a5, a6, a7, a8, a9, b0, b1, b2, b3, b4, b5, b6, b7, b8, b9, c0, c1, c2, c3, c4, c5, c6, c7, c8], _ => ⟨a0, a1, a2, a3, a4, a5, a6, a7, a8, a9, b0, b1, b2, b3, b4, b5, b6, b7, b8, b9, c0, c1, c2, c3, c4, c5, c6, c7, c8, rfl⟩
theorem lit_do (w : World) {xs : List Value} (hx : xs.length = 29) : (Instr.buildSlice 26 1 #[(0, .agg xs.toArray)]).run Tryd.prog w = .ok (.slice (some ⟨w.heap.size, 0, none⟩) 1 1) (w.alloc (.cells xs.toArray 34 (0, 0))) := by
  obtain ⟨a0, a1, a2, a3, a4, a5, a6, a7, a8, a9, b0, b1, b2, b3, b4, b5, b6, b7, b8, b9, c0, c1, c2, c3, c4, c5, c6, c7, c8, rfl⟩ := len29 hx
  kernel_rfl
theorem exec_lit1 {P : Program} {o : Oper} {a : Act} {w w1 : World} {v y1 : Value} (t : TypeId) (y : Operand) (ho : o.op = .buildSlice t 1 #[(0, y)]) (hy : a.eval y = y1) (hr : (Instr.buildSlice t 1 #[(0, y1)]).run P w = .ok v w1) : (execOp a.eval o).run P w = .ok (.value v) w1 := by
  unfold execOp
  simp only [ho, List.map_toArray, List.map_cons, List.map_nil, hy, hr, Sem.run_bind, Sem.run_pure, Result.andThen_ok]
theorem lit_do' (w : World) {xs : List Value} (hx : xs.length = 29) : ∃ b w1, (Instr.buildSlice 26 1 #[(0, .agg xs.toArray)]).run Tryd.prog w = .ok (.slice (some ⟨b, 0, none⟩) 1 1) w1 ∧ w1.heap[b]? = some (.cells xs.toArray 34 (0, 0)) ∧ Below w.heap.size w w1 :=
  ⟨_, _, lit_do w hx, at_alloc w _, below_alloc (Below.refl _ _) _⟩
theorem one_do {w : World} {b : Nat} {k : Dq} (hk : k.key.length = 8) (hx : k.x.key.length = 8) (h : w.heap[b]? = some (.cells (encQ k).toArray 34 (0, 0))) : kQ.C w (some ⟨b, 0, none⟩) [k].length [k] := by
  refine ⟨rfl, by simp, fun _ => ⟨⟨b, 0, none⟩, rfl, fun i y hi => ?_⟩⟩
  have hi0 : i = 0 := by have := (List.getElem?_eq_some_iff.1 hi).1; simp at this; exact this
  subst hi0
  have hy : k = y := by simpa using hi
  subst hy
  refine ⟨encQ k, encQ_len hk hx, ⟨rfl, encQ_len hk hx⟩, fun j v hj => ?_⟩
  rw [Nat.zero_mul, Nat.zero_add, add_off, Nat.zero_add]
  exact blk_get h j v hj
end Go.Proofs.YtgmaedngkhidlaaDoor.Sf
