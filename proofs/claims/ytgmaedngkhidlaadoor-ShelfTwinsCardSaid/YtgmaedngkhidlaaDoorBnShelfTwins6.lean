/- Texts that the row of LawShelfTwins rests on, part 6 of 12: contracts of the functions, their walks, plain laws. -/
import Derived.Test.YtgmaedngkhidlaaDoorBnShelfTwins5
import Derived.Deep.AppendSrc
set_option linter.unusedSimpArgs false
-- SgR
namespace Go.Proofs.YtgmaedngkhidlaaDoor.Sf
open Go Go.RowKit Go.ChangeMaps Go.MapKept Go.Proofs.YtgmaedngkhidlaaDoorW.PrintWords Go.Proofs.YtgmaedngkhidlaaDoorW.PrintLast Go.Proofs.YtgmaedngkhidlaaDoorW.PrintMore
open Go.Maps (Keyed)
set_option linter.unusedVariables false
set_option linter.unusedSimpArgs false
def flatR (R : List Rc) : List Value := (R.map encR).flatten
theorem flatR_len : ∀ {R : List Rc}, (∀ x ∈ R, x.key.length = 8) → (flatR R).length = R.length * 14
  | [], _ => rfl
  | x :: R, h => by
    unfold flatR
    rw [List.map_cons, List.flatten_cons, List.length_append, encR_len (h x (List.mem_cons_self ..))]
    have := flatR_len (R := R) fun y hy => h y (List.mem_cons_of_mem _ hy)
    unfold flatR at this
    rw [this, List.length_cons]
    omega
theorem flatR_get : ∀ {R : List Rc}, (∀ x ∈ R, x.key.length = 8) → ∀ {j : Nat} {p : Rc}, R[j]? = some p → ∀ {i : Nat} {u : Value}, (encR p)[i]? = some u → (flatR R)[j * 14 + i]? = some u
  | [], _, j, p, hj, _, _, _ => by simp at hj
  | x :: R, h, j, p, hj, i, u, hu => by
    have hl := encR_len (h x (List.mem_cons_self ..))
    have hs : flatR (x :: R) = encR x ++ flatR R := by unfold flatR; rw [List.map_cons, List.flatten_cons]
    rw [hs]
    cases j with
    | zero =>
      simp at hj
      subst hj
      have hi := (List.getElem?_eq_some_iff.1 hu).1
      rw [Nat.zero_mul, Nat.zero_add, List.getElem?_append_left hi]
      exact hu
    | succ j =>
      rw [List.getElem?_append_right (by rw [hl]; omega), hl, show (j + 1) * 14 + i - 14 = j * 14 + i by omega]
      exact flatR_get (fun y hy => h y (List.mem_cons_of_mem _ hy)) (by simpa using hj) hu
theorem flatR_append (R S : List Rc) : flatR (R ++ S) = flatR R ++ flatR S := by unfold flatR; rw [List.map_append, List.flatten_append]
theorem flatR_one (R : List Rc) : ∀ v ∈ flatR R, v.oneCell' = true := by
  intro v hv
  obtain ⟨l, hl, hv⟩ := List.mem_flatten.1 hv
  obtain ⟨x, _, rfl⟩ := List.mem_map.1 hl
  exact encR_one x v hv
theorem keys_of {w : World} {A : Option Addr} {n : Nat} {R : List Rc} (h : kR.C w A n R) : ∀ x ∈ R, x.key.length = 8 := by
  intro x hx
  obtain ⟨i, hi, rfl⟩ := List.mem_iff_getElem.1 hx
  exact (R_at h i hi).choose_spec.2.1
theorem row_cells {w : World} {ad : Addr} {n : Nat} {R : List Rc} (h : kR.C w (some ad) n R) : ∀ j v, (flatR R)[j]? = some v → w.cell? (ad.add j) = some v := by
  intro j v hj
  have hk := keys_of h
  have hl := flatR_len hk
  have hlt := (List.getElem?_eq_some_iff.1 hj).1
  have hq : j / 14 < R.length := by omega
  have hm : j % 14 < 14 := Nat.mod_lt _ (by decide)
  have he : j = j / 14 * 14 + j % 14 := by omega
  have hel : (encR R[j / 14]).length = 14 := encR_len (hk _ (List.getElem_mem hq))
  have hg := flatR_get hk (List.getElem?_eq_getElem hq) (List.getElem?_eq_getElem (show j % 14 < (encR R[j / 14]).length by omega))
  rw [← he, hj] at hg
  obtain ⟨ad', e, _, hc⟩ := R_at h (j / 14) hq
  injection e with e
  subst e
  have := hc (j % 14) _ (List.getElem?_eq_getElem (by omega))
  rw [add_add, ← he] at this
  rw [this, hg]
theorem rv_block {G : Nat → Prop} {w : World} {g c : Nat} {t : TypeId} {cells : Array Value} {R : List Rc} (hb : w.heap[g]? = some (.cells cells t (0, 0))) (hg : ¬ G g) (hk : ∀ x ∈ R, x.key.length = 8) (hp : ∀ (j : Nat) (v : Value), (flatR R)[j]? = some v → cells[j]? = some v) (hc : R.length ≤ c) (hm : R.length ≤ 9223372036854775807) : RV G w (.slice (some ⟨g, 0, none⟩) R.length c) R := by
  refine Kd.V_mk hc fun W' hW => ?_
  have hb' := (hW g hg (blk_lt hb)).trans hb
  refine ⟨rfl, hm, fun _ => ⟨⟨g, 0, none⟩, rfl, fun j p hj => ⟨encR p, encR_len (hk p (List.mem_of_getElem? hj)), ⟨rfl, encR_len (hk p (List.mem_of_getElem? hj))⟩, fun i u hu => ?_⟩⟩⟩
  rw [add_off, cell_of_row W' g _ _ t (0, 0) hb', Nat.zero_add]
  exact hp _ _ (flatR_get hk hj hu)
theorem append_rec {G : Nat → Prop} {w : World} {A : Option Addr} {R : List Rc} {x : Rc} {a : Nat} (hC : kR.C w A R.length R) (hl : R.length ≤ 24) (hk : x.key.length = 8) (ha : w.heap[a]? = some (.cells (encR x).toArray 32 (0, 0))) (hG : ¬ G w.heap.size) (ty : TypeId) :
    ∃ v w', (Builtin.append_ #[47, 47] ty #[.slice A R.length R.length, .slice (some ⟨a, 0, none⟩) 1 1]).run Tryd.prog w = .ok v w' ∧ Below w.heap.size w w' ∧ RV G w' v (R ++ [x]) := by
  have hks := keys_of hC
  have hfl := flatR_len hks
  have ht : Tryd.prog.underlying 47 = some (.slice 32) := by kernel_rfl
  have hsz := aggR.size
  have hby : (Tryd.prog.info? 32).map (·.bytes) = some 64 := by kernel_rfl
  have hz0 : (Tryd.prog.info? 32).bind (·.zero) = some (.agg zRow.toArray) := by kernel_rfl
  cases hi : Tryd.prog.info? 32 with
  | none => rw [hi] at hsz; cases hsz
  | some i =>
    rw [hi] at hsz hby hz0
    have hs : i.size = 14 := by simpa using hsz
    have hy : i.bytes = 64 := by simpa using hby
    have hz : i.zero = some (.agg zRow.toArray) := by simpa using hz0
    have hold : (Builtin.firstCells i.size R.length (.slice A R.length R.length)).run Tryd.prog w.drew = .ok (flatR R).toArray w.drew := by
      cases A with
      | none =>
        have h0 : R = [] := by
          cases R with
          | nil => rfl
          | cons y r => obtain ⟨ad, e, _⟩ := hC.2.2 (by simp); cases e
        subst h0
        exact run_firstCells_none w.drew _ _ _ _
      | some ad => exact run_firstCells_some w.drew i.size R.length ad R.length R.length (flatR R) (by rw [hfl, hs]) (fun j v hj => by simpa using row_cells hC j v hj)
    have hsrc := Src.ofSlice (P := Tryd.prog) w (size := i.size) ht ⟨a, 0, none⟩ 1 1 (encR x) (by rw [encR_len hk, hs]) (fun j u hj => by rw [add_off, Nat.zero_add]; exact blk_get ha j u hj) (encR_one x)
    have hnx := nextslicecap_le (show R.length < R.length + 1 by omega)
    have hrun := run_append_grow_src (P := Tryd.prog) w 47 47 ty 32 i (.agg zRow.toArray) ht hi hz A R.length R.length (flatR R) hold _ 1 (encR x) hsrc (by omega) (by omega) (by rw [hy]; omega)
    refine ⟨_, _, hrun, ?_, ?_⟩
    · exact below_then (below_drew1 (Below.refl _ _)) (Nat.le_refl _) (below_alloc (Below.refl _ _) _)
    · have hc := grownCap_ge w (R.length + 1) R.length 32
      have hlen : (R ++ [x]).length = R.length + 1 := by simp
      have := rv_block (G := G) (c := grownCap w (R.length + 1) R.length 32) (R := R ++ [x]) (at_alloc w.drew (.cells ((flatR R ++ encR x).toArray ++ Builtin.zeroCells (Value.agg zRow.toArray).cells (grownCap w (R.length + 1) R.length 32 - (R.length + 1))) 32 (0, 0))) hG (fun y hy => by
        rcases List.mem_append.1 hy with hy | hy
        · exact hks y hy
        · simp at hy; rw [hy]; exact hk) (fun j v hj => by
        rw [flatR_append] at hj
        have e1 : flatR [x] = encR x := by unfold flatR; simp
        rw [e1] at hj
        have hjl := (List.getElem?_eq_some_iff.1 hj).1
        rw [Array.getElem?_append_left (by simpa using hjl), List.getElem?_toArray]
        exact hj) (by rw [hlen]; exact hc) (by rw [hlen]; omega)
      rw [hlen] at this
      exact this
end Go.Proofs.YtgmaedngkhidlaaDoor.Sf
-- SgC
namespace Go.Proofs.YtgmaedngkhidlaaDoor.Sf
open Go Go.RowKit Go.ChangeMaps Go.MapKept Go.Proofs.YtgmaedngkhidlaaDoorW.PrintWords Go.Proofs.YtgmaedngkhidlaaDoorW.PrintLast Go.Proofs.YtgmaedngkhidlaaDoorW.PrintMore
open Go.Maps (Keyed)
set_option linter.unusedVariables false
set_option linter.unusedSimpArgs false
theorem add_zero' (a : Addr) : a.add 0 = a := by unfold Addr.add; split <;> simp_all
theorem slice_full (w : World) (A : Option Addr) (n c : Nat) (hc : n ≤ c) : (Instr.sliceAt 47 (.slice A n c) none (some (.int .i64 (n : Int))) (some (.int .i64 (n : Int)))).run Tryd.prog w = .ok (.slice A n n) w := by
  have ht : Tryd.prog.underlying 47 = some (.slice (Tryd.prog.elem 47)) := by kernel_rfl
  rw [run_sliceAt_slice w 47 _ _ _ _ ht]
  rw [run_slice_hm w 47 A n c ht .i64 .i64 (n : Int) (n : Int) (by omega) (by omega) (by omega)]
  have hs : (sizeOf (Tryd.prog.elem 47)).run Tryd.prog w = .ok 14 w := by kernel_rfl
  rw [hs]
  cases A <;> simp [Result.andThen, sliced, add_zero']
theorem seg_two {w : World} {g f : Nat} {u v : Value} (h0 : w.cell? ⟨g, f, none⟩ = some u) (h1 : w.cell? ⟨g, f + 1, none⟩ = some v) : SegAt w g f [u, v] := fun j x hj => by
  rcases j with _ | _ | j
  · simp at hj; subst hj; exact h0
  · simp at hj; subst hj; exact h1
  · simp at hj
theorem len14 : ∀ {k : List Value}, k.length = 14 → ∃ a0 a1 a2 a3 a4 a5 a6 a7 a8 a9 b0 b1 b2 b3, k = [a0, a1, a2, a3, a4, a5, a6, a7, a8, a9, b0, b1, b2, b3]
  | [a0, a1, a2, a3, a4, a5, a6, a7, a8, a9, b0, b1, b2, b3], _ => ⟨a0, a1, a2, a3, a4, a5, a6, a7, a8, a9, b0, b1, b2, b3, rfl⟩
theorem lit_rec (w : World) {xs : List Value} (hx : xs.length = 14) : (Instr.buildSlice 47 1 #[(0, .agg xs.toArray)]).run Tryd.prog w = .ok (.slice (some ⟨w.heap.size, 0, none⟩) 1 1) (w.alloc (.cells xs.toArray 32 (0, 0))) := by
  obtain ⟨a0, a1, a2, a3, a4, a5, a6, a7, a8, a9, b0, b1, b2, b3, rfl⟩ := len14 hx
  kernel_rfl
section
variable {o : Oper} {a : Act} {w : World} {ops : Array Oper} {Q : Exit → Act → World → Prop} {K : Act → World → Prop}
theorem exec_full (x hi mx : Operand) (ho : o.op = .slice 47 x none (some hi) (some mx)) (A : Option Addr) (n c : Nat) (hc : n ≤ c) (hx : a.eval x = .slice A n c) (hh : a.eval hi = .int .i64 (n : Int)) (hm : a.eval mx = .int .i64 (n : Int)) : (execOp a.eval o).run Tryd.prog w = .ok (.value (.slice A n n)) w := by
  unfold execOp
  simp only [ho, hx, hh, hm, Option.map, slice_full w A n c hc, Sem.run_bind, Sem.run_pure, Result.andThen_ok]
theorem lit_step (hw : Region.wanted o (yielded ops a.tmps) = true) {N : Tmp} (hN : o.dst = some N) (y : Operand) (ho : o.op = .buildSlice 47 1 #[(0, y)]) (xs : List Value) (hx : xs.length = 14) (hy : a.eval y = .agg xs.toArray)
    (h : ∀ a1 w1, a1 = w.heap.size → w1.heap[a1]? = some (.cells xs.toArray 32 (0, 0)) → Below w.heap.size w w1 → K (a.put (some N) (.slice (some ⟨a1, 0, none⟩) 1 1)) w1) : if Region.wanted o (yielded ops a.tmps) = true then Oper.wp Tryd.prog o a w K Q else K (a.put (some N) undef) w := by
  refine value_ hw hN (v := .slice (some ⟨w.heap.size, 0, none⟩) 1 1) (w1 := w.alloc (.cells xs.toArray 32 (0, 0))) ?_ (h _ _ rfl (at_alloc w _) (below_alloc (Below.refl _ _) _))
  unfold execOp
  have := lit_rec w hx
  simp only [ho, hy, List.map_toArray, List.map_cons, List.map_nil, this, Sem.run_bind, Sem.run_pure, Result.andThen_ok]
theorem app_step {G : Nat → Prop} (hw : Region.wanted o (yielded ops a.tmps) = true) {N : Tmp} (hN : o.dst = some N) (y z : Operand) (ho : o.op = .call { callee := .builtin .append, args := #[y, z], argTypes := #[47, 47] }) (A : Option Addr) (R : List Rc) (x : Rc) (b : Nat)
    (hy : a.eval y = .slice A R.length R.length) (hz : a.eval z = .slice (some ⟨b, 0, none⟩) 1 1) (hC : kR.C w A R.length R) (hl : R.length ≤ 24) (hk : x.key.length = 8) (ha : w.heap[b]? = some (.cells (encR x).toArray 32 (0, 0))) (hG : ¬ G w.heap.size)
    (h : ∀ v w1, Below w.heap.size w w1 → RV G w1 v (R ++ [x]) → K (a.put (some N) v) w1) : if Region.wanted o (yielded ops a.tmps) = true then Oper.wp Tryd.prog o a w K Q else K (a.put (some N) undef) w := by
  obtain ⟨v, w1, hr, hb, hrv⟩ := append_rec (G := G) hC hl hk ha hG o.type
  refine value_ hw hN (v := v) (w1 := w1) ?_ (h v w1 hb hrv)
  unfold execOp
  simp only [ho, resolve, invoke, builtin, Sem.run_bind, Sem.run_pure, Result.andThen_ok, List.map_toArray, List.map_cons, List.map_nil, hy, hz, hr]
end
section
variable {F G : Nat → Prop} {p : Nat} {s : Sh}
set_option maxHeartbeats 8000000 in
set_option maxRecDepth 100000 in
theorem Add_calls (x : Rc) (w : World) (h : IsS F G w p s) (hGb : ∀ k, G k → k < w.heap.size) (hw : Wf s) (hk : KeyL x.key) (hv : x.val.size ≤ 9223372036854775807) (hcl : (Lit.int .i64 x.client).wf = true) (hT : Tabs w) :
    Calls Tryd.prog 21 #[.pointer (some ⟨p, 0, none⟩), vR x] w fun e w' => e = .returned (.int .i64 (addP s x).2) ∧ Ws F w w' ∧ IsS F G w' p (addP s x).1 := by
  obtain ⟨xs, hxs⟩ : ∃ xs, encR x = xs := ⟨_, rfl⟩
  change Calls Tryd.prog 21 #[.pointer (some ⟨p, 0, none⟩), .agg (encR x).toArray] w _
  have hxl := encR_len hk.len
  have hx1 := encR_one x
  rw [hxs] at hxl hx1
  obtain ⟨out, hout⟩ : ∃ out, addP s x = out := ⟨_, rfl⟩
  rw [hout]
  unfold addP at hout
  obtain ⟨m, hm⟩ : ∃ m, mayP (lastT s) x = m := ⟨_, rfl⟩
  rw [hm] at hout
  have HMAY : Aside0 (∀ w' : World, IsS F G w' p s → Tabs w' → Calls Tryd.prog 53 #[.pointer (some ⟨p, 0, none⟩), .agg xs.toArray] w' fun e w'' => e = .returned (.int .i64 m) ∧ Below w'.heap.size w' w'') := ⟨fun w' h' hT' => hxs ▸ hm ▸ may_calls x w' h' hw hk hv hcl hT'⟩
  rw [hxs]
  obtain ⟨g, hg⟩ : ∃ g, w.heap.size = g := ⟨_, rfl⟩
  obtain ⟨w1, hw1⟩ : ∃ w1, w.alloc (.cells xs.toArray 32) = w1 := ⟨_, rfl⟩
  have hb1 : Below w.heap.size w w1 := hw1 ▸ below_alloc (Below.refl _ _) _
  have hX1 : w1.heap[g]? = some (.cells xs.toArray 32) := hg ▸ hw1 ▸ at_alloc w _
  have h1 := h.below hb1
  have HH1 := Aside0.mk h1
  have HX1 := Aside0.mk hX1
  have HB1 := Aside0.mk hb1
  have HM1 := Aside0.mk (HMAY.out w1 h1 (hT.below hb1))
  have HOut := Aside0.mk hout
  have HW1 := Aside0.mk hw1
  have HH0 := Aside0.mk h
  have HWf := Aside0.mk hw
  have HXL := Aside0.mk hxl
  have HXO := Aside0.mk hx1
  have HXS := Aside0.mk hxs
  have HK := Aside0.mk hk
  have HCL := Aside0.mk hcl
  have HGB := Aside0.mk hGb
  have HGS := Aside0.mk hg
  clear hxl hx1 hout hw1 hb1 hX1 h1 h hGb hw hk hv hcl hT hxs hm HMAY
  go_enter Tryd.func21, Tryd.ntmps21
  go_upto_region 1 with (fail)
  rw [HW1.out]
  go_upto_region 4 with (first
    | (go_at_call 51; refine (dead_calls HH1.out).mono ?_; rintro e w' ⟨rfl, rfl⟩)
    | ((with_reducible refine gate_dst (N := 9) rfl ?_); go_must (refine wpList_seg (P := Tryd.prog) rfl 32 (.tmp 3) rfl g 0 rfl xs (by rw [HXL.out]; exact aggR) (SegAt.blk (t := 32) (fr := (0, 0)) HX1.out) ?_))
    | (go_at_call 53; refine HM1.out.mono ?_; rintro e w2 ⟨rfl, hb2⟩))
  have HB2 := Aside0.mk (below_then HB1.out HB1.out.size hb2)
  have HX2 := Aside0.mk (blk_below HX1.out hb2)
  clear hb2 HB1 HX1 HM1 HH1
  by_cases cm : m = 0
  · have ho := HOut.out
    rw [if_neg (fun h => h cm)] at ho
    subst cm
    have HO2 := Aside0.mk ho
    clear ho HOut
    obtain ⟨b1, b2, b3, b4, rv, hp0, hf0, hn0, hs1, hs2, hrv⟩ := HH0.out.ex
    obtain ⟨Ar, cr, rfl, hcr, hCr⟩ := hrv.slice
    have HP2 := Aside0.mk (blk_below hp0 HB2.out)
    have c6 : w2.cell? ⟨p, 6, none⟩ = some (.slice Ar s.R.length cr) := (blk_cell HP2.out 6).trans rfl
    have HCR := Aside0.mk hcr
    have HC2 := Aside0.mk (Kd.C_below hCr HB2.out)
    have HS1 := Aside0.mk hs1
    have HS2 := Aside0.mk hs2
    have HF0 := Aside0.mk hf0
    have HN0 := Aside0.mk hn0
    have HPB := Aside0.mk (And.intro (IsMap.ne_cells hs1.c hp0) (And.intro (IsMap.ne_cells hs1.d hp0) (And.intro (IsMap.ne_cells hs2.c hp0) (IsMap.ne_cells hs2.d hp0))))
    have hlen := HWf.out.len
    clear hp0 hf0 hn0 hs1 hs2 hrv hcr hCr
    by_cases c24 : 24 ≤ s.R.length
    · have d1 : decide ((s.R.length : Int) ≥ 24) = true := decide_eq_true (by omega)
      have d2 : decide ((24 : Int) ≤ (s.R.length : Int)) = true := decide_eq_true (by omega)
      have ho := HO2.out
      rw [if_pos c24] at ho
      subst ho
      clear hlen
      go_wp2_with (fail)
      go_ret
      exact ⟨rfl, Ws.of_below (hg ▸ HB2.out), HH0.out.below (hg ▸ HB2.out)⟩
    · have d1 : decide ((s.R.length : Int) ≥ 24) = false := decide_eq_false (by omega)
      have d2 : decide ((24 : Int) ≤ (s.R.length : Int)) = false := decide_eq_false (by omega)
      have ho := HO2.out
      rw [if_neg c24] at ho
      subst ho
      have HLE := Aside0.mk hlen
      clear c24 hlen
      go_upto_region 8 with (fail)
      refine start_ (n := 22) (S := fun w' => w'.heap[p]? = some (.cells (shCells b1 b2 b3 b4 s.T.idx s.T.epoch (.slice Ar s.R.length cr) s.C) 86 (0, 0)) ∧ w'.heap[g]? = some (.cells xs.toArray 32 (0, 0)) ∧ kR.C w' Ar s.R.length s.R ∧ Below w.heap.size w w') (ds := [21]) #[false, false, false, false, false, false, false, false, false, false, false, false, false, false, false, false, false, false, false, false, false, false] (by kernel_rfl) rfl rfl ⟨HP2.out, HX2.out, Kd.C_below HC2.out (below_drew1 (Below.refl _ _)), below_drew1 HB2.out⟩ (fun hHeld => ?_)
      refine pure_ (i := 0) (N := some 20) (v := ?_) (a' := ?_) #[true, false, false, false, false, false, false, false, false, false, false, false, false, false, false, false, false, false, false, false, false, false] rfl rfl (by kernel_rfl) (fun _ _ _ h => h) (Or.inl ⟨by rfl, ?_⟩) ?_ ?_
      rotate_left
      · intro w'
        go_simp
        with_reducible rfl
      rotate_left
      · simp only [Act.put, List.setIfInBounds_toArray, List.set_cons_zero, List.set_cons_succ, i64_w, i32_w]
        rfl
      refine pure_ (i := 1) (N := some 21) (v := ?_) (a' := ?_) #[true, true, false, false, false, false, false, false, false, false, false, false, false, false, false, false, false, false, false, false, false, false] rfl rfl (by kernel_rfl) (fun _ _ _ h => h) (Or.inl ⟨by rfl, ?_⟩) ?_ ?_
      rotate_left
      · intro w'
        go_simp
        with_reducible rfl
      rotate_left
      · simp only [Act.put, List.setIfInBounds_toArray, List.set_cons_zero, List.set_cons_succ, i64_w, i32_w]
        rfl
      refine pure_ (i := 2) (N := some 22) (v := ?_) (a' := ?_) #[true, true, true, false, false, false, false, false, false, false, false, false, false, false, false, false, false, false, false, false, false, false] rfl rfl (by kernel_rfl) (fun _ _ _ h => h) (Or.inl ⟨by rfl, ?_⟩) ?_ ?_
      rotate_left
      · intro w'
        go_simp
        with_reducible rfl
      rotate_left
      · simp only [Act.put, List.setIfInBounds_toArray, List.set_cons_zero, List.set_cons_succ, i64_w, i32_w]
        rfl
      refine pure_ (i := 3) (N := some 23) (v := ?_) (a' := ?_) #[true, true, true, true, false, false, false, false, false, false, false, false, false, false, false, false, false, false, false, false, false, false] rfl rfl (by kernel_rfl) (fun _ _ _ h => h) (Or.inl ⟨by rfl, ?_⟩) ?_ ?_
      rotate_left
      · intro w'
        go_simp
        with_reducible rfl
      rotate_left
      · simp only [Act.put, List.setIfInBounds_toArray, List.set_cons_zero, List.set_cons_succ, i64_w, i32_w]
        rfl
      refine pure_ (i := 5) (N := some 25) (v := ?_) (a' := ?_) #[true, true, true, true, false, true, false, false, false, false, false, false, false, false, false, false, false, false, false, false, false, false] rfl rfl (by kernel_rfl) (fun _ _ _ h => h) (Or.inl ⟨by rfl, ?_⟩) ?_ ?_
      rotate_left
      · intro w'
        go_simp
        with_reducible rfl
      rotate_left
      · simp only [Act.put, List.setIfInBounds_toArray, List.set_cons_zero, List.set_cons_succ, i64_w, i32_w]
        rfl
      refine pure_ (i := 6) (N := some 26) (v := ?_) (a' := ?_) #[true, true, true, true, false, true, true, false, false, false, false, false, false, false, false, false, false, false, false, false, false, false] rfl rfl (by kernel_rfl) (fun _ _ _ h => h) (Or.inl ⟨by rfl, ?_⟩) ?_ ?_
      rotate_left
      · intro w'
        go_simp
        with_reducible rfl
      rotate_left
      · simp only [Act.put, List.setIfInBounds_toArray, List.set_cons_zero, List.set_cons_succ, i64_w, i32_w]
        rfl
      refine pure_ (i := 7) (N := some 27) (v := ?_) (a' := ?_) #[true, true, true, true, false, true, true, true, false, false, false, false, false, false, false, false, false, false, false, false, false, false] rfl rfl (by kernel_rfl) (fun _ _ _ h => h) (Or.inl ⟨by rfl, ?_⟩) ?_ ?_
      rotate_left
      · intro w'
        go_simp
        with_reducible rfl
      rotate_left
      · simp only [Act.put, List.setIfInBounds_toArray, List.set_cons_zero, List.set_cons_succ, i64_w, i32_w]
        rfl
      refine pure_ (i := 10) (N := some 30) (v := ?_) (a' := ?_) #[true, true, true, true, false, true, true, true, false, false, true, false, false, false, false, false, false, false, false, false, false, false] rfl rfl (by kernel_rfl) (fun _ _ _ h => h) (Or.inl ⟨by rfl, ?_⟩) ?_ ?_
      rotate_left
      · intro w'
        go_simp
        with_reducible rfl
      rotate_left
      · simp only [Act.put, List.setIfInBounds_toArray, List.set_cons_zero, List.set_cons_succ, i64_w, i32_w]
        rfl
      refine pure_ (i := 11) (N := some 31) (v := ?_) (a' := ?_) #[true, true, true, true, false, true, true, true, false, false, true, true, false, false, false, false, false, false, false, false, false, false] rfl rfl (by kernel_rfl) (fun _ _ _ h => h) (Or.inl ⟨by rfl, ?_⟩) ?_ ?_
      rotate_left
      · intro w'
        go_simp
        with_reducible rfl
      rotate_left
      · simp only [Act.put, List.setIfInBounds_toArray, List.set_cons_zero, List.set_cons_succ, i64_w, i32_w]
        rfl
      refine pure_ (i := 12) (N := some 32) (v := ?_) (a' := ?_) #[true, true, true, true, false, true, true, true, false, false, true, true, true, false, false, false, false, false, false, false, false, false] rfl rfl (by kernel_rfl) (fun _ _ _ h => h) (Or.inl ⟨by rfl, ?_⟩) ?_ ?_
      rotate_left
      · intro w'
        go_simp
        with_reducible rfl
      rotate_left
      · simp only [Act.put, List.setIfInBounds_toArray, List.set_cons_zero, List.set_cons_succ, i64_w, i32_w]
        rfl
      refine take_ (i := 4) (N := some 24) (v := ?_) (a' := ?_) #[true, true, true, true, true, true, true, true, false, false, true, true, true, false, false, false, false, false, false, false, false, false] rfl rfl (by kernel_rfl) (fun _ _ _ h => h) (Or.inl ⟨by rfl, ?_⟩) hHeld ?_ ?_
      rotate_left
      · rintro w' ⟨s0, s1, s2, s3⟩
        have d6_ := (blk_cell s0 6).trans (show _ = some (.slice Ar s.R.length cr) from rfl)
        go_simp
        with_reducible rfl
      rotate_left
      · simp only [Act.put, List.setIfInBounds_toArray, List.set_cons_zero, List.set_cons_succ, i64_w, i32_w]
        rfl
      refine take_ (i := 8) (N := some 28) (v := ?_) (a' := ?_) #[true, true, true, true, true, true, true, true, true, false, true, true, true, false, false, false, false, false, false, false, false, false] rfl rfl (by kernel_rfl) (fun _ _ _ h => h) (Or.inl ⟨by rfl, ?_⟩) hHeld ?_ ?_
      rotate_left
      · rintro w' ⟨s0, s1, s2, s3⟩
        have d6_ := (blk_cell s0 6).trans (show _ = some (.slice Ar s.R.length cr) from rfl)
        go_simp
        with_reducible rfl
      rotate_left
      · simp only [Act.put, List.setIfInBounds_toArray, List.set_cons_zero, List.set_cons_succ, i64_w, i32_w]
        rfl
      refine pure_ (i := 9) (N := some 29) (v := ?_) (a' := ?_) #[true, true, true, true, true, true, true, true, true, true, true, true, true, false, false, false, false, false, false, false, false, false] rfl rfl (by kernel_rfl) (fun _ _ _ h => h) (Or.inl ⟨by rfl, ?_⟩) ?_ ?_
      rotate_left
      · intro w'
        go_simp
        with_reducible rfl
      rotate_left
      · simp only [Act.put, List.setIfInBounds_toArray, List.set_cons_zero, List.set_cons_succ, i64_w, i32_w]
        rfl
      refine take_ (i := 13) (N := some 33) (v := ?_) (a' := ?_) #[true, true, true, true, true, true, true, true, true, true, true, true, true, true, false, false, false, false, false, false, false, false] rfl rfl (by kernel_rfl) (fun _ _ _ h => h) (Or.inl ⟨by rfl, ?_⟩) hHeld ?_ ?_
      rotate_left
      · rintro w' ⟨s0, s1, s2, s3⟩
        have d6_ := (blk_cell s0 6).trans (show _ = some (.slice Ar s.R.length cr) from rfl)
        go_simp
        with_reducible rfl
      rotate_left
      · simp only [Act.put, List.setIfInBounds_toArray, List.set_cons_zero, List.set_cons_succ, i64_w, i32_w]
        rfl
      refine pure_ (i := 14) (N := some 34) (v := ?_) (a' := ?_) #[true, true, true, true, true, true, true, true, true, true, true, true, true, true, true, false, false, false, false, false, false, false] rfl rfl (by kernel_rfl) (fun _ _ _ h => h) (Or.inl ⟨by rfl, ?_⟩) ?_ ?_
      rotate_left
      · intro w'
        go_simp
        with_reducible rfl
      rotate_left
      · simp only [Act.put, List.setIfInBounds_toArray, List.set_cons_zero, List.set_cons_succ, i64_w, i32_w]
        rfl
      refine pure_ (i := 15) (N := some 35) (v := ?_) (a' := ?_) #[true, true, true, true, true, true, true, true, true, true, true, true, true, true, true, true, false, false, false, false, false, false] rfl rfl (by kernel_rfl) (fun _ _ _ h => h) (Or.inl ⟨by rfl, ?_⟩) ?_ ?_
      rotate_left
      · intro w'
        refine Eq.trans (exec_full (.tmp 24) (.tmp 29) (.tmp 34) rfl Ar s.R.length cr HCR.out rfl rfl rfl) ?_
        with_reducible rfl
      rotate_left
      · simp only [Act.put, List.setIfInBounds_toArray, List.set_cons_zero, List.set_cons_succ, i64_w, i32_w]
        rfl
      refine take_ (i := 16) (N := some 36) (v := ?_) (a' := ?_) #[true, true, true, true, true, true, true, true, true, true, true, true, true, true, true, true, true, false, false, false, false, false] rfl rfl (by kernel_rfl) (fun _ _ _ h => h) (Or.inl ⟨by rfl, ?_⟩) hHeld ?_ ?_
      rotate_left
      · rintro w' ⟨s0, s1, s2, s3⟩
        refine Eq.trans (exec_seg (P := Tryd.prog) 32 (.tmp 3) rfl g 0 rfl xs (by rw [HXL.out]; exact aggR) (SegAt.blk (t := 32) (fr := (0, 0)) s1)) ?_
        with_reducible rfl
      rotate_left
      · simp only [Act.put, List.setIfInBounds_toArray, List.set_cons_zero, List.set_cons_succ, i64_w, i32_w]
        rfl
      refine one_ (i := 17) (N := some 37) #[true, true, true, true, true, true, true, true, true, true, true, true, true, true, true, true, true, true, false, false, false, false] rfl rfl (by kernel_rfl) (by decide) (fun K hK => ?_)
      refine lit_step (by rfl) (N := 37) rfl (.tmp 36) rfl xs HXL.out rfl ?_
      intro a5 w5 ha5 hblk5 hb5
      have HA5 := Aside0.mk (hblk5)
      clear ha5 hblk5
      refine hK.out _ _ ⟨blk_below hHeld.1 hb5, blk_below hHeld.2.1 hb5, Kd.C_below hHeld.2.2.1 hb5, below_step hHeld.2.2.2 hb5⟩ (fun hHeld => ?_)
      clear hK K
      refine norm_ (a' := ?_) ?_ ?_
      rotate_left
      · show Act.put _ (some 37) _ = _
        simp only [Act.put, List.setIfInBounds_toArray, List.set_cons_zero, List.set_cons_succ, i64_w, i32_w]
        rfl
      refine one_ (i := 18) (N := some 38) #[true, true, true, true, true, true, true, true, true, true, true, true, true, true, true, true, true, true, true, false, false, false] rfl rfl (by kernel_rfl) (by decide) (fun K hK => ?_)
      refine app_step (G := G) (by rfl) (N := 38) rfl (.tmp 35) (.tmp 37) rfl Ar s.R x a5 rfl rfl hHeld.2.2.1 HLE.out HK.out.len (HXS.out ▸ HA5.out) (fun hgg => by have h1_ := HGB.out _ hgg; have h2_ := hHeld.2.2.2.size; omega) ?_
      intro v7 w7 hb7 hrv7
      obtain ⟨A7, c7, e7, _, _⟩ := hrv7.slice
      obtain ⟨n7, hn7⟩ : ∃ n7, (s.R ++ [x]).length = n7 := ⟨_, rfl⟩
      rw [hn7] at e7
      subst e7
      have HRV7 := Aside0.mk hrv7
      clear hrv7 hn7
      refine hK.out _ _ ⟨blk_below hHeld.1 hb7, blk_below hHeld.2.1 hb7, Kd.C_below hHeld.2.2.1 hb7, below_step hHeld.2.2.2 hb7⟩ (fun hHeld => ?_)
      clear hK K
      refine norm_ (a' := ?_) ?_ ?_
      rotate_left
      · show Act.put _ (some 38) _ = _
        simp only [Act.put, List.setIfInBounds_toArray, List.set_cons_zero, List.set_cons_succ, i64_w, i32_w]
        rfl
      refine pure_ (i := 19) (N := some 39) (v := ?_) (a' := ?_) #[true, true, true, true, true, true, true, true, true, true, true, true, true, true, true, true, true, true, true, true, false, false] rfl rfl (by kernel_rfl) (fun _ _ _ h => h) (Or.inl ⟨by rfl, ?_⟩) ?_ ?_
      rotate_left
      · intro w'
        go_simp
        with_reducible rfl
      rotate_left
      · simp only [Act.put, List.setIfInBounds_toArray, List.set_cons_zero, List.set_cons_succ, i64_w, i32_w]
        rfl
      refine pure_ (i := 20) (N := some 40) (v := ?_) (a' := ?_) #[true, true, true, true, true, true, true, true, true, true, true, true, true, true, true, true, true, true, true, true, true, false] rfl rfl (by kernel_rfl) (fun _ _ _ h => h) (Or.inl ⟨by rfl, ?_⟩) ?_ ?_
      rotate_left
      · intro w'
        go_simp
        with_reducible rfl
      rotate_left
      · simp only [Act.put, List.setIfInBounds_toArray, List.set_cons_zero, List.set_cons_succ, i64_w, i32_w]
        rfl
      refine last_ (i := 21) (N := none) #[true, true, true, true, true, true, true, true, true, true, true, true, true, true, true, true, true, true, true, true, true, true] rfl rfl (by kernel_rfl) (by decide) (fun K hK => ?_)
      have hcS := (blk_cell hHeld.1 6).trans (show _ = some (Value.slice Ar s.R.length cr) from rfl)
      have hfS := blk_frozen hHeld.1 6
      refine skip_ (w1 := ?_) (by rfl) rfl ?_ ?_
      rotate_left
      · go_simp
        rfl
      refine hK.out _ _ ?_
      clear hK K
      refine done_ (by kernel_rfl) ?_
      obtain ⟨k0, k1, k2, k3⟩ := hHeld
      obtain ⟨w8, hw8⟩ : ∃ w8, w7.setCell ⟨p, 6, none⟩ (.slice A7 n7 c7) = w8 := ⟨_, rfl⟩
      have hP8 : w8.heap[p]? = some (.cells (shCells b1 b2 b3 b4 s.T.idx s.T.epoch (.slice A7 n7 c7) s.C) 86 (0, 0)) := hw8 ▸ blk_set k0 6 _
      have hpg : g ≠ p := fun e => by have := HH0.out.lt p HH0.out.fp; have := HGS.out; omega
      have hws7 : Ws F w w7 := Ws.of_below (HGS.out ▸ k3)
      have hws8 : Ws F w w8 := hws7.trans (hw8 ▸ Ws.of_set w7 HH0.out.fp 6 _)
      have hX8 : w8.heap[g]? = some (.cells xs.toArray 32 (0, 0)) := hw8 ▸ blk_far k1 hpg _
      have hRV8 : RV G w8 (.slice A7 n7 c7) (s.R ++ [x]) := HRV7.out.ws (hw8 ▸ Ws.of_set (P := F) w7 HH0.out.fp 6 _) HH0.out.fg
      have hpb := HPB.out
      have hS18 : St2 w8 b1 b2 s.T := (HS1.out.below (HGS.out ▸ k3)).same (hw8 ▸ Below.heap_setCell w7 ⟨p, 6, none⟩ _ b1 (Ne.symm hpb.1)) (hw8 ▸ Below.heap_setCell w7 ⟨p, 6, none⟩ _ b2 (Ne.symm hpb.2.1))
      have hS28 : St2 w8 b3 b4 (lastT s) := (HS2.out.below (HGS.out ▸ k3)).same (hw8 ▸ Below.heap_setCell w7 ⟨p, 6, none⟩ _ b3 (Ne.symm hpb.2.2.1)) (hw8 ▸ Below.heap_setCell w7 ⟨p, 6, none⟩ _ b4 (Ne.symm hpb.2.2.2))
      have hT1 := HWf.out.last.1
      have HPUT : Aside0 (∀ w' : World, St2 w' b3 b4 (lastT s) → Calls Tryd.prog 55 #[vS b3 b4, .agg xs.toArray] w' fun e w'' => e = .returned (.tuple #[]) ∧ Ws (fun b => b = b3 ∨ b = b4) w' w'' ∧ St2 w'' b3 b4 (putT (lastT s) x)) := ⟨fun w' h' => HXS.out ▸ put_calls b3 b4 (lastT s) x w' h' (by have := HN0.out; simp at this; exact this.2.2) hT1.up hT1.upd HK.out HCL.out⟩
      have HP8 := Aside0.mk hP8
      have HX8 := Aside0.mk hX8
      have HW8 := Aside0.mk hws8
      have HRV8 := Aside0.mk hRV8
      have HS18 := Aside0.mk hS18
      have HS28 := Aside0.mk hS28
      rw [hw8]
      clear hT1 hS18 hS28 hRV8 hX8 hws7 hws8 hP8 hpb hw8 k0 k1 k2 k3 HRV7 HA5 hb5 hb7 c6
      go_upto_region 9 with (fail)
      refine start_ (n := 6) (S := fun w' => w'.heap[p]? = some (.cells (shCells b1 b2 b3 b4 s.T.idx s.T.epoch (.slice A7 n7 c7) s.C) 86 (0, 0)) ∧ w'.heap[g]? = some (.cells xs.toArray 32 (0, 0)) ∧ St2 w' b3 b4 (lastT s)) (ds := [5]) #[false, false, false, false, false, false] (by kernel_rfl) rfl rfl ⟨HP8.out, HX8.out, HS28.out.below (below_drew1 (Below.refl _ _))⟩ (fun hHeld => ?_)
      refine pure_ (i := 0) (N := some 41) (v := ?_) (a' := ?_) #[true, false, false, false, false, false] rfl rfl (by kernel_rfl) (fun _ _ _ h => h) (Or.inl ⟨by rfl, ?_⟩) ?_ ?_
      rotate_left
      · intro w'
        go_simp
        with_reducible rfl
      rotate_left
      · simp only [Act.put, List.setIfInBounds_toArray, List.set_cons_zero, List.set_cons_succ, i64_w, i32_w]
        rfl
      refine pure_ (i := 1) (N := some 42) (v := ?_) (a' := ?_) #[true, true, false, false, false, false] rfl rfl (by kernel_rfl) (fun _ _ _ h => h) (Or.inl ⟨by rfl, ?_⟩) ?_ ?_
      rotate_left
      · intro w'
        go_simp
        with_reducible rfl
      rotate_left
      · simp only [Act.put, List.setIfInBounds_toArray, List.set_cons_zero, List.set_cons_succ, i64_w, i32_w]
        rfl
      refine pure_ (i := 2) (N := some 43) (v := ?_) (a' := ?_) #[true, true, true, false, false, false] rfl rfl (by kernel_rfl) (fun _ _ _ h => h) (Or.inl ⟨by rfl, ?_⟩) ?_ ?_
      rotate_left
      · intro w'
        go_simp
        with_reducible rfl
      rotate_left
      · simp only [Act.put, List.setIfInBounds_toArray, List.set_cons_zero, List.set_cons_succ, i64_w, i32_w]
        rfl
      refine take_ (i := 3) (N := some 44) (v := ?_) (a' := ?_) #[true, true, true, true, false, false] rfl rfl (by kernel_rfl) (fun _ _ _ h => h) (Or.inl ⟨by rfl, ?_⟩) hHeld ?_ ?_
      rotate_left
      · rintro w' ⟨s0, s1, s2⟩
        refine Eq.trans (exec_seg (P := Tryd.prog) 84 (.tmp 43) rfl p 2 rfl [.map (some b3), .map (some b4)] aggS (seg_two (show w'.cell? ⟨p, 2, none⟩ = some (.map (some b3)) from (blk_cell s0 2).trans rfl) (show w'.cell? ⟨p, 3, none⟩ = some (.map (some b4)) from (blk_cell s0 3).trans rfl))) ?_
        with_reducible rfl
      rotate_left
      · simp only [Act.put, List.setIfInBounds_toArray, List.set_cons_zero, List.set_cons_succ, i64_w, i32_w]
        rfl
      refine take_ (i := 4) (N := some 45) (v := ?_) (a' := ?_) #[true, true, true, true, true, false] rfl rfl (by kernel_rfl) (fun _ _ _ h => h) (Or.inl ⟨by rfl, ?_⟩) hHeld ?_ ?_
      rotate_left
      · rintro w' ⟨s0, s1, s2⟩
        refine Eq.trans (exec_seg (P := Tryd.prog) 32 (.tmp 3) rfl g 0 rfl xs (by rw [HXL.out]; exact aggR) (SegAt.blk (t := 32) (fr := (0, 0)) s1)) ?_
        with_reducible rfl
      rotate_left
      · simp only [Act.put, List.setIfInBounds_toArray, List.set_cons_zero, List.set_cons_succ, i64_w, i32_w]
        rfl
      refine last_ (i := 5) (N := some 46) #[true, true, true, true, true, true] rfl rfl (by kernel_rfl) (by decide) (fun K hK => ?_)
      refine goes_ Tryd.func55 (by kernel_rfl) rfl #[vS b3 b4, .agg xs.toArray] (by rfl) rfl rfl (by first | rfl | (simp; done) | (simp only [List.map_toArray, List.map_cons, List.map_nil]; rfl)) ?_
      with_reducible refine (HPUT.out _ hHeld.2.2).mono ?_
      rintro e w9 ⟨rfl, hws9, hst9⟩
      refine ⟨_, rfl, ?_⟩
      refine hK.out _ _ ?_
      clear hK K
      refine norm_ (a' := ?_) ?_ ?_
      rotate_left
      · show Act.put _ (some 46) _ = _
        simp only [Act.put, List.setIfInBounds_toArray, List.set_cons_zero, List.set_cons_succ, i64_w, i32_w]
        rfl
      refine done_ (by kernel_rfl) ?_
      go_wp2_with (fail)
      go_ret
      have hdr : Ws F w8 w8.drew := Ws.of_below (below_drew1 (Below.refl _ _))
      have hws9F : Ws F w8.drew w9 := hws9.mono (fun b _ hb => by
        rcases hb with rfl | rfl
        · exact HF0.out.2.2.1
        · exact HF0.out.2.2.2)
      have hws89 : Ws (fun b => b = b3 ∨ b = b4) w8 w9 := (Ws.of_below (below_drew1 (Below.refl _ _))).trans hws9
      have hall := HW8.out.trans (hdr.trans hws9F)
      have hpb := HPB.out
      have hnd := HN0.out
      simp at hnd
      have hlast : lastT ⟨s.T, s.R ++ [x], s.C⟩ = putT (lastT s) x := upT_snoc s.T s.R x
      refine ⟨rfl, hall, ⟨fun k hk => Nat.lt_of_lt_of_le (HH0.out.lt k hk) hall.size, HH0.out.fg, HH0.out.fp, b1, b2, b3, b4, .slice A7 n7 c7, ?_, HF0.out, HN0.out, ?_, ?_, ?_⟩⟩
      · exact (hws89.block p (blk_lt HP8.out) (fun e => e.elim hpb.2.2.1 hpb.2.2.2)).trans HP8.out
      · exact HS18.out.ws hws89 (fun e => e.elim hnd.1.2.1 hnd.1.2.2) (fun e => e.elim hnd.2.1.1 hnd.2.1.2)
      · rw [hlast]; exact hst9
      · exact HRV8.out.ws (hdr.trans hws9F) HH0.out.fg
  · have ho := HOut.out
    rw [if_pos cm] at ho
    subst ho
    have d1 : (m != 0) = true := by simpa using cm
    clear cm
    go_wp2_with (fail)
    go_ret
    exact ⟨rfl, Ws.of_below HB2.out, HH0.out.below HB2.out⟩
end
end Go.Proofs.YtgmaedngkhidlaaDoor.Sf
-- SgD
namespace Go.Proofs.YtgmaedngkhidlaaDoor.Sf
open Go Go.RowKit Go.ChangeMaps Go.MapKept Go.Proofs.YtgmaedngkhidlaaDoorW.PrintWords Go.Proofs.YtgmaedngkhidlaaDoorW.PrintLast Go.Proofs.YtgmaedngkhidlaaDoorW.PrintMore
open Go.Maps (Keyed)
set_option linter.unusedVariables false
set_option linter.unusedSimpArgs false
abbrev zCel : List Value := [.int .u8 0, .int .u8 0, .int .u8 0, .int .u8 0, .int .u8 0, .int .u8 0, .int .u8 0, .int .u8 0, .int .i64 0, .string ⟨#[]⟩]
section
variable {F G : Nat → Prop} {p : Nat} {s : Sh}
set_option maxHeartbeats 8000000 in
set_option maxRecDepth 100000 in
theorem Settle_calls (i : Int) (w : World) (h : IsS F G w p s) (hw : Wf s) :
    Calls Tryd.prog 50 #[.pointer (some ⟨p, 0, none⟩), .int .i64 i] w fun e w' => e = .returned (.int .i64 (settleP s i).2) ∧ Ws F w w' ∧ IsS F G w' p (settleP s i).1 := by
  obtain ⟨out, hout⟩ : ∃ out, settleP s i = out := ⟨_, rfl⟩
  rw [hout]
  unfold settleP at hout
  obtain ⟨b1, b2, b3, b4, rv, hp0, hf0, hn0, hs1, hs2, hrv⟩ := h.ex
  have c7 : w.cell? ⟨p, 7, none⟩ = some (.int .i64 s.C) := (blk_cell hp0 7).trans rfl
  have f7 := blk_frozen hp0 7
  have HD := Aside0.mk (dead_calls h)
  have HE := Aside0.mk (end_calls h hw)
  have HOut := Aside0.mk hout
  have HH := Aside0.mk h
  have HP := Aside0.mk hp0
  have HF0 := Aside0.mk hf0
  have HN0 := Aside0.mk hn0
  have HS1 := Aside0.mk hs1
  have HS2 := Aside0.mk hs2
  have HRV := Aside0.mk hrv
  obtain ⟨E, hE⟩ : ∃ E, endI s = E := ⟨_, rfl⟩
  rw [hE] at HE HOut
  obtain ⟨C, hC⟩ : ∃ C, s.C = C := ⟨_, rfl⟩
  rw [hC] at c7 HOut
  have HCE := Aside0.mk hC
  clear hout h hw hp0 hf0 hn0 hs1 hs2 hrv hE hC
  by_cases c1 : i < C
  · have d1 : decide (i < C) = true := decide_eq_true c1
    have ho := HOut.out
    rw [if_pos (.inl c1)] at ho
    subst ho
    clear c1
    go_enter Tryd.func50, Tryd.ntmps50
    go_wp2_with (go_at_call 51; refine HD.out.mono ?_; rintro e w' ⟨rfl, rfl⟩)
    go_ret
    exact ⟨rfl, Ws.refl _ _, HH.out⟩
  have d1 : decide (i < C) = false := decide_eq_false c1
  by_cases c2 : E < i
  · have d2 : decide (i > E) = true := decide_eq_true c2
    have d2' : decide (E < i) = true := decide_eq_true c2
    have ho := HOut.out
    rw [if_pos (.inr c2)] at ho
    subst ho
    clear c1 c2
    go_enter Tryd.func50, Tryd.ntmps50
    go_wp2_with (first
      | (go_at_call 51; refine HD.out.mono ?_; rintro e w' ⟨rfl, rfl⟩)
      | (go_at_call 52; refine HE.out.mono ?_; rintro e w1 ⟨rfl, ⟨nd, rfl⟩⟩))
    go_ret
    exact ⟨rfl, Ws.of_below (pw_below_drewN (Below.refl _ _) nd), HH.out.drew nd⟩
  have d2 : decide (i > E) = false := decide_eq_false c2
  have d2' : decide (E < i) = false := decide_eq_false c2
  have ho := HOut.out
  rw [if_neg (fun h => h.elim c1 c2)] at ho
  subst ho
  clear c1 c2
  go_enter Tryd.func50, Tryd.ntmps50
  go_wp2_with (first
    | (go_at_call 51; refine HD.out.mono ?_; rintro e w' ⟨rfl, rfl⟩)
    | (go_at_call 52; refine HE.out.mono ?_; rintro e w1 ⟨rfl, ⟨nd, rfl⟩⟩))
  go_ret
  have hb := pw_below_drewN (Below.refl w.heap.size w) nd
  have hws : Ws F (w.drewN nd) ((w.drewN nd).setCell ⟨p, 7, none⟩ (.int .i64 i)) := Ws.of_set _ HH.out.fp 7 _
  have hall := (Ws.of_below (P := F) hb).trans hws
  have hne1 := IsMap.ne_cells HS1.out.c HP.out
  have hne2 := IsMap.ne_cells HS1.out.d HP.out
  have hne3 := IsMap.ne_cells HS2.out.c HP.out
  have hne4 := IsMap.ne_cells HS2.out.d HP.out
  have far : ∀ k, p ≠ k → ((w.drewN nd).setCell ⟨p, 7, none⟩ (.int .i64 i)).heap[k]? = (w.drewN nd).heap[k]? := fun k hk => Below.heap_setCell _ ⟨p, 7, none⟩ _ k (Ne.symm hk)
  have hblk := blk_set (blk_drewN HP.out nd) 7 (.int .i64 i)
  refine ⟨rfl, hall, fun k hk => Nat.lt_of_lt_of_le (HH.out.lt k hk) hall.size, HH.out.fg, HH.out.fp, b1, b2, b3, b4, rv, hblk, HF0.out, HN0.out, (HS1.out.below hb).same (far b1 hne1) (far b2 hne2), (HS2.out.below hb).same (far b3 hne3) (far b4 hne4), HRV.out.ws hall HH.out.fg⟩
end
end Go.Proofs.YtgmaedngkhidlaaDoor.Sf
