/- Contract of the disk's Used. -/
import Derived.Test.YtehjbhnlbjbhfaaDkB
namespace Go.Proofs.Ytehjbhnlbjbhfaa.Dk
open Go Go.RowKit Go.Proofs.YtehjbhnlbjbhfaaW.PrintWords Go.Proofs.YtehjbhnlbjbhfaaW.PrintLast Go.Proofs.YtehjbhnlbjbhfaaW.PrintMore
open Go.Proofs.Ytehjbhnlbjbhfaa.PDiskBegins
attribute [local go_sem] max2_int min2_int max_two min_two
set_option linter.unusedVariables false
section
variable {P : Program}
theorem run_loadVar_seg (w : World) (g o : Nat) (ty : TypeId) (cs : List Value) (d : TypeDesc) (hc : ∀ j v, cs[j]? = some v → w.cell? ⟨g, o + j, none⟩ = some v)
    (hu : P.underlying ty = some d) (hd : (match d with | .struct _ | .array _ _ => true | _ => false) = true) (hi : (P.info? ty).map (·.size) = some cs.length) :
    (loadVar ty ⟨g, o, none⟩).run P w = .ok (.agg cs.toArray) w := by
  have hl : (loadCells ⟨g, o, none⟩ cs.length).run P w = .ok cs.toArray w :=
    run_loadCells_list (P := P) w ⟨g, o, none⟩ cs (fun j v hv => by
      have hadd : (⟨g, o, none⟩ : Addr).add j = ⟨g, o + j, none⟩ := by unfold Addr.add; split <;> simp_all
      rw [hadd]
      exact hc j v hv)
  cases hq : P.info? ty with
  | none => simp [hq] at hi
  | some i =>
    have hs : i.size = cs.length := by simpa [hq] using hi
    have hagg : (isAgg ty).run P w = .ok true w := by
      unfold isAgg
      rw [Sem.run_bind, run_underlying hu w]
      cases d <;> simp_all
    simp [loadVar, Sem.run_bind, hagg, sizeOf, typeInfo, hq, hs, hl]
theorem wp_load_seg {o : Oper} {a : Act} {w : World} {K : Act → World → Prop} {Q : Exit → Act → World → Prop} (ty : TypeId) (x : Operand) (ho : o.op = .load ty x)
    (g f : Nat) (hx : a.eval x = .pointer (some ⟨g, f, none⟩)) (cs : List Value) (d : TypeDesc) (hc : ∀ j v, cs[j]? = some v → w.cell? ⟨g, f + j, none⟩ = some v)
    (hu : P.underlying ty = some d) (hd : (match d with | .struct _ | .array _ _ => true | _ => false) = true) (hi : (P.info? ty).map (·.size) = some cs.length)
    (h : K (a.put o.dst (.agg cs.toArray)) w) : o.wp P a w K Q := by
  unfold Oper.wp execOp
  simp only [ho, hx, Instr.loadAt, Instr.sureAddr, Sem.run_bind, Sem.run_pure, Result.andThen_ok, run_loadVar_seg w g f ty cs d hc hu hd hi]
  exact h
theorem wpList_load_seg {ops : Array Oper} {rest : List Oper} {o : Oper} {a : Act} {w : World} {Q : Exit → Act → World → Prop} (hgd : o.guard = none) (ty : TypeId) (x : Operand) (ho : o.op = .load ty x)
    (g f : Nat) (hx : a.eval x = .pointer (some ⟨g, f, none⟩)) (cs : List Value) (d : TypeDesc) (hc : ∀ j v, cs[j]? = some v → w.cell? ⟨g, f + j, none⟩ = some v)
    (hu : P.underlying ty = some d) (hd : (match d with | .struct _ | .array _ _ => true | _ => false) = true) (hi : (P.info? ty).map (·.size) = some cs.length)
    (h : wpList P ops Q rest (a.put o.dst (.agg cs.toArray)) w) : wpList P ops Q (o :: rest) a w :=
  wpList_plain hgd fun _ hK => wp_load_seg ty x ho g f hx cs d hc hu hd hi (hK _ _ h)
end
theorem files_cells {W : World} {g : Nat} {d : DV} (h : At W g d) : ∀ j v, (d.fs.flatMap FV.cells)[j]? = some v → W.cell? ⟨g, 3 + j, none⟩ = some v := by
  intro j v hj
  rw [h.cell]
  unfold DV.cells
  rw [List.getElem?_append_right (by simp), List.getElem?_append_left (by
    have := (List.getElem?_eq_some_iff.1 hj).1
    simpa using this)]
  simpa using hj
theorem files_len {d : DV} (h : d.fs.length = 8) : (d.fs.flatMap FV.cells).length = 24 := by
  obtain ⟨a0, a1, a2, a3, a4, a5, a6, a7, e⟩ := eight h
  rw [e]; rfl
theorem files_index {d : DV} (h : d.fs.length = 8) {k : Nat} (hk : k < 8) (W : World) : (Instr.index 62 (.agg (d.fs.flatMap FV.cells).toArray) (.int .i64 (k : Int))).run Try.prog W = .ok (.agg #[(d.f k).sv, (d.f k).lv, .bool (d.f k).cl]) W := by
  obtain ⟨a0, a1, a2, a3, a4, a5, a6, a7, e⟩ := eight h
  unfold DV.f
  rw [e]
  rcases below8 hk with rfl | rfl | rfl | rfl | rfl | rfl | rfl | rfl <;> kernel_rfl
/-- So much is told in the first k files. -/
def ps (s : DS) : Nat → Nat
  | 0 => 0
  | k + 1 => ps s k + (fl s k).seen.length
theorem ps_used (s : DS) (h : s.fs.length = 8) : ps s 8 = usedP s := by
  obtain ⟨a0, a1, a2, a3, a4, a5, a6, a7, e⟩ := eight h
  simp [ps, fl, usedP, e]; omega
theorem ps_le (s : DS) : ∀ (d k : Nat), k + d = 8 → ps s k ≤ ps s 8 := by
  intro d
  induction d with
  | zero => intro k h; rw [show k = 8 by omega]; exact Nat.le_refl _
  | succ d ih => intro k h; exact Nat.le_trans (Nat.le_add_right _ _) (ih (k + 1) (by omega))
theorem used_le {s : DS} (h : Ok s) : usedP s ≤ 33554432 := by
  have : ∀ l : List Fl, (∀ f ∈ l, f.seen.length ≤ 4194304) → (l.map fun f => f.seen.length).sum ≤ 4194304 * l.length := by
    intro l
    induction l with
    | nil => intro _; simp
    | cons a l ih =>
      intro hl
      have h1 := hl a (List.mem_cons_self ..)
      have h2 := ih (fun f hf => hl f (List.mem_cons_of_mem _ hf))
      rw [List.map_cons, List.sum_cons, List.length_cons]; omega
  have h2 := this s.fs h.told
  rw [h.len] at h2
  exact h2
set_option maxHeartbeats 8000000 in
set_option maxRecDepth 100000 in
theorem Used_calls (G : Nat → Prop) (g : Nat) (s : DS) (w : World) (h : IsD G w g s) (hok : Ok s) : Calls Try.prog 18 #[.pointer (some ⟨g, 0, none⟩)] w fun e w' => e = .returned (.int .i64 ((usedP s : Nat) : Int)) ∧ Below w.heap.size w w' := by
  have HU := Aside0.mk (ps_used s hok.len)
  have HPL := Aside0.mk (ps_le s)
  have HM := Aside0.mk (used_le hok)
  obtain ⟨_, _, d, hA, hR⟩ := h
  have HFC := Aside0.mk (files_cells hA)
  have HFL := Aside0.mk (files_len hA.1)
  have HIX := Aside0.mk (fun k hk => @files_index d hA.1 k hk)
  have HR := Aside0.mk hR
  have HB := Aside0.mk (Below.refl w.heap.size w)
  rw [← HU.out]
  clear hA hR hok
  generalize d.fs.flatMap FV.cells = X at HFC HFL HIX
  go_enter Try.func18, Try.ntmps18
  go_wp2_with (refine wpList_load_seg (P := Try.prog) rfl 62 (.tmp 11) rfl g 3 rfl X _ HFC.out Try.underlying62 rfl (by rw [HFL.out]; kernel_rfl) ?_)
  go_loopw [3, 13] (fun v3 v13 wr => ∃ k : Nat, k ≤ 8 ∧ v13 = .int .i64 (k : Int) ∧ v3 = .int .i64 ((ps s k : Nat) : Int) ∧ Aside0 (Below w.heap.size w wr)) (fun _ v13 _ => (8 - intOf v13).toNat)
  case atStart => exact ⟨0, by omega, rfl, rfl, HB⟩
  case round =>
    obtain ⟨k, hk, rfl, rfl, H⟩ := hrel
    clear HB
    have hq := HPL.out (8 - k) k (by omega)
    rw [HU.out] at hq
    have hq2 := Nat.le_trans hq HM.out
    clear hq
    by_cases hlt : k < 8
    · have hn := HPL.out (7 - k) (k + 1) (by omega)
      rw [HU.out] at hn
      have hn2 := Nat.le_trans hn HM.out
      clear hn
      have HP := Aside0.mk (show ps s (k + 1) = ps s k + (fl s k).seen.length from rfl)
      rw [HP.out] at hn2
      obtain ⟨A, c, hv, _, _⟩ := (HR.out.2.2.2.2.2.2 k hlt).1.slice
      obtain ⟨B, e, hx, _, _⟩ := (HR.out.2.2.2.2.2.2 k hlt).2.1.slice
      have ix := HIX.out k hlt
      rw [hv, hx] at ix
      clear hv hx
      generalize (fl s k).seen.length = n at *
      generalize (fl s k).lasts.length = m at *
      generalize (d.f k).cl = cl at *
      generalize ps s k = q at *
      go_wp2
      go_roundw
      case rel => exact ⟨k + 1, by omega, by go_num, by rw [HP.out]; go_num, ⟨below_alloc H.out _⟩⟩
      case measure => simp [intOf]; omega
    · obtain rfl : k = 8 := by omega
      rw [show ((8 : Nat) : Int) = 8 from rfl]
      clear hlt hk
      go_wp2
      go_ret
      exact ⟨rfl, H.out⟩
end Go.Proofs.Ytehjbhnlbjbhfaa.Dk
