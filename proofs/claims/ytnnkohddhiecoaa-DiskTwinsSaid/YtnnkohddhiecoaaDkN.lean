/- Contract of the law's files: all files of a disk, with the power on. -/
import Derived.Test.YtnnkohddhiecoaaDkM
namespace Go.Proofs.Ytnnkohddhiecoaa.Dk
open Go Go.RowKit Go.Proofs.YtnnkohddhiecoaaW.PrintWords Go.Proofs.YtnnkohddhiecoaaW.PrintLast Go.Proofs.YtnnkohddhiecoaaW.PrintMore
open Go.Proofs.Ytnnkohddhiecoaa.PDiskBegins
attribute [local go_sem] max2_int min2_int max_two min_two
set_option linter.unusedVariables false
set_option linter.unusedSimpArgs false
theorem Wr.far {g : Nat} {w w1 : World} (h : Wr g w w1) {p : Addr} (hp : w.heap.size ≤ p.block) (u : Value) : Wr g w (w1.setCell p u) :=
  have hb : Below 0 w1 (w1.setCell p u) := (Below.refl 0 w1).setCell (p := p) (Nat.zero_le _) u
  ⟨hb.os.trans h.os, hb.tape.trans h.tape, hb.output.trans h.output, by simpa using h.size, fun i hi hne => (Below.heap_setCell w1 p u i (by omega)).trans (h.block i hi hne)⟩
abbrev nilV : Value := .slice none 0 0
/-- Rows of bytes in an array's cells. -/
def FRows (G : Nat → Prop) (n : Nat) (W : World) (VS : List Value) (f : Nat → List Int) : Prop := ∀ j, j < n → Rw G .u8 W (VS.getD j nilV) (f j)
def filesP (s : DS) (j : Nat) : List Int := (readP (startP s).1 (j : Int)).1
def zVS : List Value := List.replicate 8 (.slice none 0 0)
theorem getD_set {α : Type} (l : List α) (d v : α) {i : Nat} (h : i < l.length) (j : Nat) : (l.set i v).getD j d = if i = j then v else l.getD j d := by
  rw [List.getD_eq_getElem?_getD, List.getD_eq_getElem?_getD, List.getElem?_set]
  split
  · rename_i e; subst e; simp [h]
  · rfl
set_option maxHeartbeats 8000000 in
set_option maxRecDepth 100000 in
theorem files_calls (G : Nat → Prop) (g : Nat) (s : DS) (w : World) (h : IsD G w g s) (hok : Okk s) :
    Calls Try.prog 26 #[.pointer (some ⟨g, 0, none⟩)] w fun e w' => ∃ VS : List Value, e = .returned (.agg VS.toArray) ∧ VS.length = 8 ∧ FRows (fun k => k < w.heap.size) 8 w' VS (filesP s) ∧ IsD G w' g (startP s).1 ∧ Wr g w w' := by
  have HOK := Aside0.mk hok.start
  have H2 := Aside0.mk (h.more (b := w.heap.size) (Nat.le_refl _) (by simp) (below_alloc (Below.refl w.heap.size w) (.cells zVS.toArray 47)))
  have HG := Aside0.mk h.lt
  have HGG := Aside0.mk h.gg
  have HR := Aside0.mk (blk_new w (.cells zVS.toArray 47))
  have HW := Aside0.mk (Wr.of_below (g := g) (below_alloc (Below.refl w.heap.size w) (.cells zVS.toArray 47)))
  clear h hok
  go_enter Try.func26, Try.ntmps26
  go_wp2_with (fail)
  refine (Start_calls _ g s _ H2.out).mono ?_
  rintro e w1 ⟨rfl, hI, hW⟩
  have HB3 := Aside0.mk (show w.heap.size < w1.heap.size from Nat.lt_of_lt_of_le (by simp) hW.size)
  have H3 := Aside0.mk (hI.more (b := w1.heap.size) (Nat.le_refl _) (by simp) (below_alloc (Below.refl w1.heap.size w1) (.cells zVS.toArray 47)))
  have HR2 := Aside0.mk (blk_alloc ((hW.block w.heap.size (by simp) (by have := HG.out g HGG.out; omega)).trans HR.out) (.cells zVS.toArray 47))
  have HR3 := Aside0.mk (blk_new w1 (.cells zVS.toArray 47))
  have HW3 := Aside0.mk ((HW.out.trans hW).trans (Wr.of_below (g := g) (below_alloc (Below.refl w1.heap.size w1) (.cells zVS.toArray 47))))
  clear hI hW HR HW H2
  generalize (startP s).2 = er
  go_wp2_with (fail)
  go_loopw [7] (fun v7 wr => ∃ (i : Nat) (VS : List Value), i ≤ 8 ∧ v7 = .int .i64 (i : Int) ∧ Aside0 (VS.length = 8) ∧ Aside0 (IsD (fun k => (G k ∨ k = w.heap.size) ∨ k = w1.heap.size) wr g (startP s).1) ∧ Aside0 (Wr g w wr) ∧ Aside0 (wr.heap[w.heap.size]? = some (.cells zVS.toArray 47 (0, 0))) ∧ Aside0 (wr.heap[w1.heap.size]? = some (.cells VS.toArray 47 (0, 0))) ∧ Aside0 (FRows (fun k => k < w.heap.size ∨ k = w.heap.size ∨ k = w1.heap.size) i wr VS (filesP s))) (fun v7 _ => (8 - intOf v7).toNat)
  case atStart => exact ⟨0, zVS, by omega, rfl, ⟨rfl⟩, H3, HW3, HR2, HR3, ⟨fun j hj => absurd hj (Nat.not_lt_zero j)⟩⟩
  case round =>
    obtain ⟨i, VS, hi, rfl, HV, H, HW, HR2, HR3, HF⟩ := hrel
    clear H3 HW3
    by_cases hlt : i < 8
    · go_wp2_with (fail)
      refine (Read_calls _ g (startP s).1 (i : Int) wr H.out HOK.out.1).mono ?_
      rintro e w2 ⟨v, rfl, hR, hB⟩
      obtain ⟨A, c, e3⟩ := Kd.R_slice hR
      subst e3
      have HRN := Aside0.mk (Rw.of_R (G := fun k => k < w.heap.size ∨ k = w.heap.size ∨ k = w1.heap.size) hR (fun k hk => by
        have h1 := blk_lt HR2.out
        have h2 := blk_lt HR3.out
        have h3 := HW.out.size
        omega))
      have HWN := Aside0.mk (HW.out.trans (Wr.of_below (g := g) hB))
      have HN := Aside0.mk (H.out.below hB)
      have HR2N := Aside0.mk (blk_below HR2.out hB)
      have HR3N := Aside0.mk (blk_below HR3.out hB)
      have HFN := Aside0.mk (show FRows (fun k => k < w.heap.size ∨ k = w.heap.size ∨ k = w1.heap.size) i w2 VS (filesP s) from fun j hj => (HF.out j hj).below hB)
      have hx := blk_cell HR3N.out i
      have hy := blk_frozen HR3N.out i
      rw [List.getElem?_toArray, List.getElem?_eq_getElem (by rw [HV.out]; exact hlt)] at hx
      have HQ := Aside0.mk (show (readP (startP s).1 (i : Int)).1 = filesP s i from rfl)
      clear hR hB H HW HR2 HR3 HF
      generalize (readP (startP s).1 (i : Int)).2 = er2 at *
      generalize (readP (startP s).1 (i : Int)).1.length = n at *
      rw [HQ.out] at HRN
      clear HQ
      go_wp2_with (fail)
      go_roundw
      case rel =>
        refine ⟨i + 1, VS.set i (.slice A n c), by omega, by go_num, ⟨by rw [List.length_set]; exact HV.out⟩, ⟨HN.out.other (g' := w1.heap.size) ?_ (.inr rfl) ?_⟩, ⟨HWN.out.far (Nat.le_of_lt HB3.out) _⟩, ⟨blk_far HR2N.out (by have := HB3.out; show w.heap.size ≠ w1.heap.size; omega) _⟩, ⟨blk_put HR3N.out i _ (by rw [List.setIfInBounds_toArray])⟩, ⟨fun j hj => ?_⟩⟩
        · exact Wr.set (Wr.refl _ _) i _
        · have := HG.out g HGG.out
          have := HB3.out
          omega
        · rw [getD_set _ _ _ (by rw [HV.out]; exact hlt)]
          split
          · rename_i e; subst e; exact HRN.out.step (fun b hb hlt => Below.heap_setCell _ ⟨w1.heap.size, i, none⟩ _ b (fun e => hb (.inr (.inr e))))
          · exact (HFN.out j (by omega)).step (fun b hb hlt => Below.heap_setCell _ ⟨w1.heap.size, i, none⟩ _ b (fun e => hb (.inr (.inr e))))
      case measure => simp [intOf]; omega
    · obtain rfl : i = 8 := by omega
      rw [show ((8 : Nat) : Int) = 8 from rfl]
      obtain ⟨a0, a1, a2, a3, a4, a5, a6, a7, e⟩ := eight HV.out
      subst e
      have x0 := blk_cell HR3.out 0
      have x1 := blk_cell HR3.out 1
      have x2 := blk_cell HR3.out 2
      have x3 := blk_cell HR3.out 3
      have x4 := blk_cell HR3.out 4
      have x5 := blk_cell HR3.out 5
      have x6 := blk_cell HR3.out 6
      have x7 := blk_cell HR3.out 7
      rw [show ([a0, a1, a2, a3, a4, a5, a6, a7] : List Value).toArray[0]? = some a0 from rfl] at x0
      rw [show ([a0, a1, a2, a3, a4, a5, a6, a7] : List Value).toArray[1]? = some a1 from rfl] at x1
      rw [show ([a0, a1, a2, a3, a4, a5, a6, a7] : List Value).toArray[2]? = some a2 from rfl] at x2
      rw [show ([a0, a1, a2, a3, a4, a5, a6, a7] : List Value).toArray[3]? = some a3 from rfl] at x3
      rw [show ([a0, a1, a2, a3, a4, a5, a6, a7] : List Value).toArray[4]? = some a4 from rfl] at x4
      rw [show ([a0, a1, a2, a3, a4, a5, a6, a7] : List Value).toArray[5]? = some a5 from rfl] at x5
      rw [show ([a0, a1, a2, a3, a4, a5, a6, a7] : List Value).toArray[6]? = some a6 from rfl] at x6
      rw [show ([a0, a1, a2, a3, a4, a5, a6, a7] : List Value).toArray[7]? = some a7 from rfl] at x7
      have o0 : a0.oneCell' = true := (HF.out 0 (by decide)).one_cell
      have o1 : a1.oneCell' = true := (HF.out 1 (by decide)).one_cell
      have o2 : a2.oneCell' = true := (HF.out 2 (by decide)).one_cell
      have o3 : a3.oneCell' = true := (HF.out 3 (by decide)).one_cell
      have o4 : a4.oneCell' = true := (HF.out 4 (by decide)).one_cell
      have o5 : a5.oneCell' = true := (HF.out 5 (by decide)).one_cell
      have o6 : a6.oneCell' = true := (HF.out 6 (by decide)).one_cell
      have o7 : a7.oneCell' = true := (HF.out 7 (by decide)).one_cell
      have HONE := Aside0.mk (show (#[a0, a1, a2, a3, a4, a5, a6, a7] : Array Value).all (·.oneCell') = true by simp [o0, o1, o2, o3, o4, o5, o6, o7])
      clear o0 o1 o2 o3 o4 o5 o6 o7
      go_wp2_with ((with_reducible refine gate_ (.store 47 (.tmp 2) (.tmp 19)) rfl ?_); refine wpList_store_row (P := Try.prog) rfl 47 (.tmp 2) (.tmp 19) rfl w.heap.size #[a0, a1, a2, a3, a4, a5, a6, a7] rfl rfl 47 zVS.toArray HR2.out (by kernel_rfl) rfl HONE.out ?_)
      have hb := setRow_heap wr w.heap.size _ #[a0, a1, a2, a3, a4, a5, a6, a7] 47 (0, 0) HR2.out
      have hsz : (wr.setRow w.heap.size #[a0, a1, a2, a3, a4, a5, a6, a7]).heap.size = wr.heap.size := by simp [World.setRow]
      (try simp only [Exit.inBlock, Exit.then])
      refine bodyPost_ret (results_cell_row rfl _ _ w.heap.size 47 #[a0, a1, a2, a3, a4, a5, a6, a7] (0, 0) _ rfl hb Try.underlying47 rfl (by kernel_rfl)) rfl ?_
      have hoth : ∀ k, k ≠ w.heap.size → (wr.setRow w.heap.size #[a0, a1, a2, a3, a4, a5, a6, a7]).heap[k]? = wr.heap[k]? := fun k hk => setRow_other _ _ k _ hk
      have hwr : Wr w.heap.size wr (wr.setRow w.heap.size #[a0, a1, a2, a3, a4, a5, a6, a7]) := ⟨rfl, rfl, rfl, by rw [hsz]; exact Nat.le_refl _, fun k _ hk => hoth k hk⟩
      refine ⟨[a0, a1, a2, a3, a4, a5, a6, a7], rfl, rfl, fun j hj => ((HF.out j hj).step (fun b hb' hlt => hoth b (fun e => hb' (.inr (.inl e))))).grow (fun b _ hb' => .inl hb'), ?_, ?_⟩
      · have h1 := H.out.other hwr (.inl (.inr rfl)) (by have := HG.out g HGG.out; omega)
        exact h1.grow (fun k hk => Nat.lt_of_lt_of_le (HG.out k hk) (Nat.le_trans HW.out.size hwr.size)) HGG.out (fun k _ hk => .inl (.inl hk))
      · exact ⟨HW.out.os, HW.out.tape, HW.out.output, by rw [hsz]; exact HW.out.size, fun k hk hne => (hoth k (by omega)).trans (HW.out.block k hk hne)⟩
end Go.Proofs.Ytnnkohddhiecoaa.Dk
