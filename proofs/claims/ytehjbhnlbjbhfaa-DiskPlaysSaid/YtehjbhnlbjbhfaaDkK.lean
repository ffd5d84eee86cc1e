/- Contracts of the disk's New and Clone. -/
import Derived.Test.YtehjbhnlbjbhfaaDkJ
namespace Go.Proofs.Ytehjbhnlbjbhfaa.Dk
open Go Go.RowKit Go.Proofs.YtehjbhnlbjbhfaaW.PrintWords Go.Proofs.YtehjbhnlbjbhfaaW.PrintLast Go.Proofs.YtehjbhnlbjbhfaaW.PrintMore
open Go.Proofs.Ytehjbhnlbjbhfaa.PDiskBegins
attribute [local go_sem] max2_int min2_int max_two min_two
set_option linter.unusedVariables false
set_option linter.unusedSimpArgs false
theorem IsD.grow {G G' : Nat → Prop} {g : Nat} {W : World} {s : DS} (h : IsD G W g s) (hlt : ∀ k, G' k → k < W.heap.size) (hg : G' g) (hs : ∀ k, k < W.heap.size → G' k → G k) : IsD G' W g s := by
  obtain ⟨_, _, d, hA, hR⟩ := h
  exact ⟨hlt, hg, d, hA, hR.1, hR.2.1, hR.2.2.1.grow hs, hR.2.2.2.1, hR.2.2.2.2.1, hR.2.2.2.2.2.1, fun i hi => ⟨(hR.2.2.2.2.2.2 i hi).1.grow hs, (hR.2.2.2.2.2.2 i hi).2.1.grow hs, (hR.2.2.2.2.2.2 i hi).2.2⟩⟩
def zDV (room : Int) : DV := ⟨false, 0, .slice none 0 0, List.replicate 8 nv, room, false⟩
theorem zRows (G : Nat → Prop) (W : World) (room : Int) : Rows G W (zDV room) (newP room) := by
  refine ⟨rfl, rfl, Rw.nil _ _ _, rfl, rfl, rfl, fun i hi => ?_⟩
  have h1 : (zDV room).f i = nv := by rcases below8 hi with rfl | rfl | rfl | rfl | rfl | rfl | rfl | rfl <;> rfl
  have h2 : fl (newP room) i = nf := by rcases below8 hi with rfl | rfl | rfl | rfl | rfl | rfl | rfl | rfl <;> rfl
  rw [h1, h2]
  exact ⟨Rw.nil _ _ _, Rw.nil _ _ _, rfl⟩
set_option maxHeartbeats 8000000 in
set_option maxRecDepth 100000 in
theorem New_calls (room : Int) (w : World) (h1 : 1 ≤ room) (h2 : room ≤ 4194304) : Calls Try.prog 10 #[.int .i64 room] w fun e w' => ∃ b, e = .returned (.tuple #[.pointer (some ⟨b, 0, none⟩), .int .i64 0]) ∧ w.heap.size ≤ b ∧ b < w'.heap.size ∧ Below w.heap.size w w' ∧ ∀ G : Nat → Prop, (∀ k, G k → k < w'.heap.size) → G b → IsD G w' b (newP room) := by
  have d1 : decide (room < 1) = false := decide_eq_false (by omega)
  have d2 : decide (4194304 < room) = false := decide_eq_false (by omega)
  clear h1 h2
  go_enter Try.func10, Try.ntmps10
  go_wp2
  go_ret2
  refine ⟨w.heap.size, rfl, Nat.le_refl _, by simp, below_alloc (Below.refl _ _) _, fun G hG hb => ⟨hG, hb, zDV room, ⟨rfl, ?_⟩, zRows _ _ _⟩⟩
  exact blk_new w _
theorem New_bad (room : Int) (w : World) (h : room < 1 ∨ 4194304 < room) : Calls Try.prog 10 #[.int .i64 room] w fun e w' => e = .returned (.tuple #[.pointer none, .int .i64 1]) ∧ w = w' := by
  by_cases c : room < 1
  · have d1 : decide (room < 1) = true := decide_eq_true c
    clear h
    go_enter Try.func10, Try.ntmps10
    go_wp2
    go_ret2
    exact ⟨rfl, rfl⟩
  · have d1 : decide (room < 1) = false := decide_eq_false c
    have d2 : decide (4194304 < room) = true := decide_eq_true (by omega)
    clear h
    go_enter Try.func10, Try.ntmps10
    go_wp2
    go_ret2
    exact ⟨rfl, rfl⟩
theorem whole_cells {W : World} {g : Nat} {d : DV} (h : At W g d) : ∀ j v, d.cells[j]? = some v → W.cell? ⟨g, 0 + j, none⟩ = some v := by
  intro j v hj
  rw [Nat.zero_add, h.cell]; exact hj
theorem cells_len {d : DV} (h : d.fs.length = 8) : d.cells.length = 29 := by
  obtain ⟨a0, a1, a2, a3, a4, a5, a6, a7, e⟩ := eight h
  unfold DV.cells; rw [e]; rfl
theorem Rw.one_cell {G : Nat → Prop} {k : IntKind} {W : World} {v : Value} {xs : List Int} (h : Rw G k W v xs) : v.oneCell' = true := by
  obtain ⟨A, c, rfl, _, _⟩ := h.slice
  rfl
theorem cells_one {G : Nat → Prop} {W : World} {d : DV} {s : DS} (hd : d.fs.length = 8) (h : Rows G W d s) : d.cells.toArray.all (·.oneCell') = true := by
  rw [List.all_toArray, List.all_eq_true]
  intro v hv
  unfold DV.cells at hv
  simp only [List.mem_append, List.mem_cons, List.not_mem_nil, or_false, List.mem_flatMap] at hv
  rcases hv with (rfl | rfl | rfl) | ⟨f, hf, hv⟩ | rfl | rfl
  · rfl
  · rfl
  · exact h.2.2.1.one_cell
  · obtain ⟨i, hi, e⟩ := List.getElem_of_mem hf
    have hfi : d.f i = f := by unfold DV.f; rw [List.getD_eq_getElem?_getD, List.getElem?_eq_getElem hi]; exact e
    have hr := h.2.2.2.2.2.2 i (by omega)
    rw [hfi] at hr
    unfold FV.cells at hv
    simp only [List.mem_cons, List.not_mem_nil, or_false] at hv
    rcases hv with rfl | rfl | rfl
    · exact hr.1.one_cell
    · exact hr.2.1.one_cell
    · rfl
  · rfl
  · rfl
set_option maxHeartbeats 8000000 in
set_option maxRecDepth 100000 in
theorem DClone_calls (G : Nat → Prop) (g : Nat) (s : DS) (w : World) (h : IsD G w g s) : Calls Try.prog 38 #[.pointer (some ⟨g, 0, none⟩)] w fun e w' => ∃ b, e = .returned (.pointer (some ⟨b, 0, none⟩)) ∧ w.heap.size ≤ b ∧ b < w'.heap.size ∧ Below w.heap.size w w' ∧ IsD (fun k => G k ∨ k = b) w' b s := by
  have H := Aside0.mk h
  obtain ⟨_, _, d, hA, hR⟩ := h
  have HFC := Aside0.mk (whole_cells hA)
  have HFL := Aside0.mk (cells_len hA.1)
  have HONE := Aside0.mk (cells_one hA.1 hR)
  have HA := Aside0.mk hA
  have HR := Aside0.mk hR
  clear hA hR
  obtain ⟨X, hX⟩ : ∃ X, d.cells = X := ⟨_, rfl⟩
  have HX := Aside0.mk hX
  rw [hX] at HFC HFL HONE
  clear hX
  have HNEW := Aside0.mk (blk_new w (.cells (zDV 0).cells.toArray 64))
  go_enter Try.func38, Try.ntmps38
  go_wp2_with (first | ((with_reducible refine gate_dst (N := 8) rfl ?_); refine wpList_load_seg (P := Try.prog) rfl 64 (.tmp 7) rfl g 0 rfl X _ HFC.out Try.underlying64 rfl (by rw [HFL.out]; kernel_rfl) ?_) | ((with_reducible refine gate_ (.store 64 (.tmp 3) (.tmp 8)) rfl ?_); refine wpList_store_row (P := Try.prog) rfl 64 (.tmp 3) (.tmp 8) rfl w.heap.size X.toArray rfl rfl 64 (zDV 0).cells.toArray HNEW.out (by rw [List.size_toArray, HFL.out]; kernel_rfl) (by rw [List.size_toArray, List.size_toArray, HFL.out]; rfl) HONE.out ?_))
  go_ret
  have hb := setRow_heap (w.alloc (.cells (zDV 0).cells.toArray 64)) w.heap.size _ X.toArray 64 (0, 0) HNEW.out
  have hz : (w.alloc (.cells (zDV 0).cells.toArray 64)).heap.size = w.heap.size + 1 := by simp
  have hsz : ((w.alloc (.cells (zDV 0).cells.toArray 64)).setRow w.heap.size X.toArray).heap.size = w.heap.size + 1 := by simp [World.setRow]
  have hB : Below w.heap.size w ((w.alloc (.cells (zDV 0).cells.toArray 64)).setRow w.heap.size X.toArray) := by
    have h0 := below_alloc (Below.refl w.heap.size w) (.cells (zDV 0).cells.toArray 64)
    exact ⟨h0.os, h0.tape, h0.output, by rw [hsz]; omega, fun k hk => (setRow_other _ _ k _ (by omega)).trans (h0.block k hk)⟩
  refine ⟨w.heap.size, rfl, Nat.le_refl _, Nat.lt_of_lt_of_eq (Nat.lt_succ_self _) hsz.symm, hB, ?_⟩
  have h2 := H.out.more (Nat.le_refl _) (by rw [hsz]; omega) hB
  have hr := (HR.out.wr (Wr.of_below (g := g) hB) H.out.gg)
  refine ⟨h2.lt, .inr rfl, d, ⟨HA.out.1, by rw [HX.out]; exact hb⟩, ?_⟩
  have hgr : ∀ k, k < w.heap.size → (G k ∨ k = w.heap.size) → G k := fun k hk hg => hg.elim id (fun e => by omega)
  have hR2 : Rows (fun k => G k ∨ k = w.heap.size) w d s := ⟨HR.out.1, HR.out.2.1, HR.out.2.2.1.grow hgr, HR.out.2.2.2.1, HR.out.2.2.2.2.1, HR.out.2.2.2.2.2.1, fun i hi => ⟨(HR.out.2.2.2.2.2.2 i hi).1.grow hgr, (HR.out.2.2.2.2.2.2 i hi).2.1.grow hgr, (HR.out.2.2.2.2.2.2 i hi).2.2⟩⟩
  exact hR2.wr (Wr.of_below (g := g) hB) (.inl H.out.gg)
end Go.Proofs.Ytehjbhnlbjbhfaa.Dk
