/- Contracts of the document's disk: Used and Read. -/
import Derived.Test.YtehjbhnlbjbhfaaRdA
namespace Go.Proofs.Ytehjbhnlbjbhfaa.Rd
open Go Go.RowKit Go.Proofs.YtehjbhnlbjbhfaaW.PrintWords Go.Proofs.YtehjbhnlbjbhfaaW.PrintLast Go.Proofs.YtehjbhnlbjbhfaaW.PrintMore Go.Proofs.Ytehjbhnlbjbhfaa.Dk
attribute [local go_sem] max2_int min2_int max_two min_two
set_option linter.unusedVariables false
set_option linter.unusedSimpArgs false
theorem xfiles_cells {W : World} {x : Nat} {d : XV} (h : AtX W x d) : ∀ j v, (d.fs.flatMap XF.cells)[j]? = some v → W.cell? ⟨x, 0 + j, none⟩ = some v := by
  intro j v hj
  rw [Nat.zero_add, h.cell]
  unfold XV.cells
  rw [List.getElem?_append_left ((List.getElem?_eq_some_iff.1 hj).1)]
  exact hj
theorem xfiles_len {d : XV} (h : d.fs.length = 8) : (d.fs.flatMap XF.cells).length = 24 := by
  obtain ⟨a0, a1, a2, a3, a4, a5, a6, a7, e⟩ := eight h
  rw [e]; rfl
theorem xfiles_index {d : XV} (h : d.fs.length = 8) {k : Nat} (hk : k < 8) (W : World) : (Instr.index 105 (.agg (d.fs.flatMap XF.cells).toArray) (.int .i64 (k : Int))).run Try.prog W = .ok (.agg #[.string (d.f k).told, .string (d.f k).lasts, .bool (d.f k).cl]) W := by
  obtain ⟨a0, a1, a2, a3, a4, a5, a6, a7, e⟩ := eight h
  unfold XV.f
  rw [e]
  rcases below8 hk with rfl | rfl | rfl | rfl | rfl | rfl | rfl | rfl <;> kernel_rfl
set_option maxHeartbeats 8000000 in
set_option maxRecDepth 100000 in
theorem RUsed_calls (G : Nat → Prop) (x : Nat) (s : DS) (w : World) (h : IsX G w x s) (hok : Ok s) : Calls Try.prog 19 #[.pointer (some ⟨x, 0, none⟩)] w fun e w' => e = .returned (.int .i64 ((usedP s : Nat) : Int)) ∧ Below w.heap.size w w' := by
  have HU := Aside0.mk (ps_used s hok.len)
  have HPL := Aside0.mk (ps_le s)
  have HM := Aside0.mk (used_le hok)
  obtain ⟨_, _, kv, hA, hR⟩ := h
  have HFC := Aside0.mk (xfiles_cells hA)
  have HFL := Aside0.mk (xfiles_len hA.1)
  have HIX := Aside0.mk (fun (k : Nat) (hk : k < 8) (W : World) => (xfiles_index hA.1 hk W).trans (by rw [toXV_f hok.len hk]))
  have HB := Aside0.mk (Below.refl w.heap.size w)
  rw [← HU.out]
  clear hA hR hok
  generalize (toXV s kv).fs.flatMap XF.cells = X at HFC HFL HIX
  go_enter Try.func19, Try.ntmps19
  go_wp2_with (refine wpList_load_seg (P := Try.prog) rfl 105 (.tmp 8) rfl x 0 rfl X _ HFC.out Try.underlying105 rfl (by rw [HFL.out]; kernel_rfl) ?_)
  go_loopw [3, 10] (fun v3 v10 wr => ∃ k : Nat, k ≤ 8 ∧ v10 = .int .i64 (k : Int) ∧ v3 = .int .i64 ((ps s k : Nat) : Int) ∧ Aside0 (Below w.heap.size w wr)) (fun _ v10 _ => (8 - intOf v10).toNat)
  case atStart => exact ⟨0, by omega, rfl, rfl, HB⟩
  case round =>
    obtain ⟨k, hk, rfl, rfl, H⟩ := hrel
    clear HB
    have hq := HPL.out (8 - k) k (by omega)
    rw [HU.out] at hq
    have hq2 := Nat.le_trans hq HM.out
    clear hq
    by_cases hlt : k < 8
    · have hn := HPL.out (7 - k) (k + 1) (by omega)
      rw [HU.out] at hn
      have hn2 := Nat.le_trans hn HM.out
      clear hn
      have HP := Aside0.mk (show ps s (k + 1) = ps s k + (fl s k).seen.length from rfl)
      rw [HP.out] at hn2
      have ix : ∀ W : World, (Instr.index 105 (.agg X.toArray) (.int .i64 (k : Int))).run Try.prog W = .ok (.agg #[.string (strOfNums (fl s k).seen), .string (strOfNums (fl s k).lasts), .bool (fl s k).cl]) W := fun W => HIX.out k hlt W
      have hz := strOfNums_size (fl s k).seen
      generalize (fl s k).seen.length = n at *
      generalize strOfNums (fl s k).seen = t1 at *
      generalize strOfNums (fl s k).lasts = t2 at *
      generalize (fl s k).cl = cl at *
      generalize ps s k = q at *
      go_wp2
      go_roundw
      case rel => exact ⟨k + 1, by omega, by go_num, by rw [HP.out]; go_num, ⟨below_alloc H.out _⟩⟩
      case measure => simp [intOf]; omega
    · obtain rfl : k = 8 := by omega
      rw [show ((8 : Nat) : Int) = 8 from rfl]
      clear hlt hk
      go_wp2
      go_ret
      exact ⟨rfl, H.out⟩
/-- Bytes are bytes. -/
def By (l : List Int) : Prop := ∀ x ∈ l, 0 ≤ x ∧ x < 256
def readX (s : DS) (i : Int) : List Int × Int := if mayP s i ≠ 0 then ([], mayP s i) else ((fl s i.toNat).seen, 0)
theorem bytesRow_nums (l : List Int) (h : By l) (cap j : Nat) (x : Int) (hj : l[j]? = some x) : (bytesRow (strOfNums l) cap)[j]? = some (.int .u8 x) := by
  have hlt := (List.getElem?_eq_some_iff.1 hj).1
  have hx := h x (List.mem_of_getElem? hj)
  have hs : j < (strOfNums l).data.size := by
    show j < (strOfNums l).size
    rw [strOfNums_size]; exact hlt
  rw [bytesRow_at _ _ _ hs]
  have h2 : (strOfNums l).data[j] = UInt8.ofNat x.toNat := by
    have h3 : (strOfNums l).data.toList[j]? = some (UInt8.ofNat x.toNat) := by
      rw [strOfNums_data, List.getElem?_map, hj]; rfl
    rw [Array.getElem?_toList, Array.getElem?_eq_getElem hs] at h3
    exact Option.some.inj h3
  rw [h2, UInt8.toNat_ofNat', show ((x.toNat % 2 ^ 8 : Nat) : Int) = x by omega]
theorem string_row {w : World} (l : List Int) (h : By l) (cap : Nat) (fr : Nat × Nat) (t : TypeId) (hl : l.length ≤ 9223372036854775807) : (Kd.int .u8).C (w.alloc (.cells (bytesRow (strOfNums l) cap) t fr)) (some ⟨w.heap.size, 0, none⟩) l.length l := by
  refine ⟨rfl, hl, fun _ => ⟨_, rfl, fun j x hj => ?_⟩⟩
  refine ⟨[.int .u8 x], rfl, rfl, fun i u hi => ?_⟩
  have h0 : i = 0 := by
    have := (List.getElem?_eq_some_iff.1 hi).1
    simp at this; exact this
  subst h0
  have hu : u = .int .u8 x := by simpa using hi.symm
  subst hu
  have ha : (⟨w.heap.size, 0, none⟩ : Addr).add (j * (Kd.int .u8).sz + 0) = ⟨w.heap.size, j, none⟩ := by
    rw [add_at]; simp [Kd.int, Kd.scalar]
  rw [ha, World.cell?_alloc_mark]
  exact bytesRow_nums l h cap j x hj
set_option maxHeartbeats 8000000 in
set_option maxRecDepth 100000 in
theorem RRead_calls (G : Nat → Prop) (x : Nat) (s : DS) (i : Int) (w : World) (h : IsX G w x s) (hok : Ok s) (hby : ∀ f ∈ s.fs, By f.seen) : Calls Try.prog 21 #[.pointer (some ⟨x, 0, none⟩), .int .i64 i] w fun e w' => ∃ A c, e = .returned (.tuple #[.slice A (readX s i).1.length c, .int .i64 (readX s i).2]) ∧ (readX s i).1.length ≤ c ∧ (Kd.int .u8).C w' A (readX s i).1.length (readX s i).1 ∧ Below w.heap.size w w' := by
  have H := Aside0.mk h
  have HAB := Aside0.mk (may_calls G x s i w h)
  rcases may_cases s i with c | ⟨c, j, hj, rfl, _⟩
  · have HR := Aside0.mk (show readX s i = ([], mayP s i) by unfold readX; rw [if_pos c])
    have c1 : (mayP s i != (0 : Int)) = true := by simpa using c
    have c2 : (mayP s i == (0 : Int)) = false := by simpa using c
    rw [HR.out]
    clear h c HR
    generalize mayP s i = er at *
    go_enter Try.func21, Try.ntmps21
    go_wp2_with (fail)
    refine (HAB.out).mono ?_
    rintro e w1 ⟨rfl, hd⟩
    have HD := Aside0.mk hd
    clear hd
    go_wp2
    go_ret2
    exact ⟨none, 0, rfl, Nat.le_refl _, Kd.C_nil _ _, HD.out.below⟩
  · have HR := Aside0.mk (show readX s (j : Int) = ((fl s j).seen, 0) by unfold readX; rw [if_neg (by rw [c]; decide), Int.toNat_natCast])
    rw [c] at HAB
    rw [HR.out]
    have HBY := Aside0.mk (hby _ (hok.fl_mem hj))
    have HL := Aside0.mk (hok.seen_le hj)
    obtain ⟨_, _, kv, hA, hR⟩ := h
    have hsv := hA.told hj
    rw [toXV_f hok.len hj] at hsv
    replace hsv : w.cell? ⟨x, j * 3, none⟩ = some (.string (strOfNums (fl s j).seen)) := hsv
    have hcv := fun (w : World) => run_bytes_of_string (P := Try.prog) w 9 32 5 (strOfNums (fl s j).seen) Try.underlying9 Try.underlying32 Try.underlying5
    have hz := strOfNums_size (fl s j).seen
    have HCV := Aside0.mk hcv
    rw [hz] at HCV
    clear hA hR c HR hok hby hcv
    generalize hl : (fl s j).seen = l at *
    clear hl
    obtain ⟨st, hst⟩ : ∃ st, strOfNums l = st := ⟨_, rfl⟩
    have HST := Aside0.mk hst
    rw [hst] at hsv HCV
    clear hst hz
    have hcv := HCV.out
    go_enter Try.func21, Try.ntmps21
    go_wp2_with (fail)
    refine (HAB.out).mono ?_
    rintro e w1 ⟨rfl, hd⟩
    obtain ⟨nd, rfl⟩ := hd
    go_wp2_with (fail)
    go_ret2
    refine ⟨_, _, rfl, ?_, ?_, ?_⟩
    · exact grownCap_ge _ _ _ _
    · rw [← HST.out]; exact string_row l HBY.out _ _ _ (by have := HL.out; omega)
    · exact below_alloc (below_drew1 (pw_below_drewN (Below.refl _ _) nd)) _
end Go.Proofs.Ytehjbhnlbjbhfaa.Rd
