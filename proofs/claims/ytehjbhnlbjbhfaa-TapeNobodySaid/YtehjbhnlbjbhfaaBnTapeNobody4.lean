/- Texts that the row of LawTapeNobody rests on, part 4 of 5: contracts of the functions, their walks, plain laws. -/
import Derived.Test.YtehjbhnlbjbhfaaBnTapeNobody3
import Derived.RegionTactic
import Derived.ChangeAlike
import Derived.Lib.SlBytesConst
-- DkE
namespace Go.Proofs.Ytehjbhnlbjbhfaa.Dk
open Go Go.RowKit Go.Proofs.YtehjbhnlbjbhfaaW.PrintWords Go.Proofs.YtehjbhnlbjbhfaaW.PrintLast Go.Proofs.YtehjbhnlbjbhfaaW.PrintMore
open Go.Proofs.Ytehjbhnlbjbhfaa.PDiskBegins
set_option linter.unusedVariables false
set_option linter.unusedSimpArgs false
def midFs (s : DS) (keep : List Int) (i : Nat) : List Fl := (List.range 8).map fun j => if j < i then afterP (fl s j) (kv keep j) else fl s j
theorem midFs_len (s : DS) (keep : List Int) (i : Nat) : (midFs s keep i).length = 8 := by simp [midFs]
theorem midFs_0 (s : DS) (keep : List Int) (h : s.fs.length = 8) : midFs s keep 0 = s.fs := by
  obtain ⟨a0, a1, a2, a3, a4, a5, a6, a7, e⟩ := eight h
  simp [midFs, fl, e, List.range, List.range.loop]
theorem midFs_8 (s : DS) (keep : List Int) (h : s.fs.length = 8) : midFs s keep 8 = fallFs keep 0 s.fs := by
  obtain ⟨a0, a1, a2, a3, a4, a5, a6, a7, e⟩ := eight h
  simp [midFs, fl, e, List.range, List.range.loop, fallFs]
theorem midFs_get (s : DS) (keep : List Int) (i j : Nat) (h : j < 8) : (midFs s keep i).getD j nf = if j < i then afterP (fl s j) (kv keep j) else fl s j := by
  unfold midFs
  rw [List.getD_eq_getElem?_getD, List.getElem?_map, List.getElem?_range h]; rfl
def midS (s : DS) (keep : List Int) (i : Nat) : DS := { s with fs := midFs s keep i }
theorem fl_mid (s : DS) (keep : List Int) (i j : Nat) (h : j < 8) : fl (midS s keep i) j = if j < i then afterP (fl s j) (kv keep j) else fl s j := midFs_get s keep i j h
theorem kv_range {keep : List Int} (h : ∀ x ∈ keep, -9223372036854775808 ≤ x ∧ x ≤ 9223372036854775807) (i : Nat) : -9223372036854775808 ≤ kv keep i ∧ kv keep i ≤ 9223372036854775807 := by
  unfold kv
  by_cases c : i < keep.length
  · rw [if_pos c]
    have : rd keep (i : Int) ∈ keep := by unfold rd; rw [Int.toNat_natCast, List.getD_eq_getElem?_getD, List.getElem?_eq_getElem c]; exact List.getElem_mem c
    exact h _ this
  · rw [if_neg c]; decide
theorem Rows.file {G : Nat → Prop} {W : World} {d : DV} {s : DS} (h : Rows G W d s) (hd : d.fs.length = 8) {i : Nat} (hi : i < 8) {v : FV} {f : Fl} (hf : FR G W v f) {d' : DV} {s' : DS} (ed : d' = { d with fs := d.fs.set i v }) (es : s' = { s with fs := s.fs.set i f }) : Rows G W d' s' := by
  subst ed es
  obtain ⟨h1, h2, h3, h4, h5, h6, h7⟩ := h
  refine ⟨h1, h2, h3, h4, h5, by simp [h6], fun j hj => ?_⟩
  have ea : (DV.f { d with fs := d.fs.set i v } j) = if i = j then v else d.f j := by
    unfold DV.f
    rw [List.getD_eq_getElem?_getD, List.getD_eq_getElem?_getD]
    simp only [List.getElem?_set]
    split
    · rename_i e; subst e; rw [if_pos (by omega)]; rfl
    · rfl
  have eb : (fl { s with fs := s.fs.set i f } j) = if i = j then f else fl s j := by
    unfold fl
    rw [List.getD_eq_getElem?_getD, List.getD_eq_getElem?_getD]
    simp only [List.getElem?_set]
    split
    · rename_i e; subst e; rw [if_pos (by omega)]; rfl
    · rfl
  rw [ea, eb]
  split
  · exact hf
  · exact h7 j hj
theorem mid_set (s : DS) (keep : List Int) {i : Nat} (hi : i < 8) : midS s keep (i + 1) = { midS s keep i with fs := (midS s keep i).fs.set i (afterP (fl s i) (kv keep i)) } := by
  unfold midS
  congr 1
  unfold midFs
  apply List.ext_getElem?
  intro j
  rw [List.getElem?_set]
  simp only [List.getElem?_map, List.length_map, List.length_range]
  rcases Nat.lt_or_ge j 8 with hj | hj
  · rw [List.getElem?_range hj]
    simp only [Option.map_some]
    by_cases e : i = j
    · subst e; rw [if_pos rfl, if_pos hi, if_pos (by omega)]
    · rw [if_neg e]
      by_cases c : j < i
      · rw [if_pos c, if_pos (by omega)]
      · rw [if_neg c, if_neg (by omega)]
  · rw [List.getElem?_eq_none (by simp; exact hj), if_neg (by omega)]; rfl
theorem At.set3 {W : World} {g : Nat} {d : DV} (h : At W g d) {i : Nat} (hi : i < 8) (v u : Value) (b : Bool) : At (((W.setCell ⟨g, 3 + i * 3, none⟩ v).setCell ⟨g, 3 + i * 3 + 1, none⟩ u).setCell ⟨g, 3 + i * 3 + 2, none⟩ (.bool b)) g { d with fs := d.fs.set i ⟨v, u, b⟩ } := by
  have h3 := ((h.setS hi v).setL hi u).setC hi b
  have e : ∀ (d : DV) (x : FV), d.fs.length = 8 → (DV.f { d with fs := d.fs.set i x } i) = x := by
    intro d x hd
    unfold DV.f
    rw [List.getD_eq_getElem?_getD, List.getElem?_set_self (by rw [hd]; exact hi)]; rfl
  rw [e d _ h.1] at h3
  simp only at h3
  have e2 := e { d with fs := d.fs.set i ⟨v, (d.f i).lv, (d.f i).cl⟩ } ⟨v, u, (d.f i).cl⟩ (by simp [h.1])
  simp only at e2
  rw [e2] at h3
  simpa only [List.set_set] using h3
set_option maxHeartbeats 8000000 in
set_option maxRecDepth 100000 in
theorem fall_calls (G : Nat → Prop) (g : Nat) (s : DS) (kV : Value) (keep : List Int) (w : World) (h : IsD G w g s) (hok : Ok s) (hk : Rw (fun b => b = g) .i64 w kV keep) (hkr : ∀ x ∈ keep, -9223372036854775808 ≤ x ∧ x ≤ 9223372036854775807) :
    Calls Try.prog 69 #[.pointer (some ⟨g, 0, none⟩), kV] w fun e w' => e = .returned (.tuple #[]) ∧ IsD G w' g (fallP s keep) ∧ Wr g w w' := by
  have HOK := Aside0.mk hok
  have HK := Aside0.mk hk
  have HKR := Aside0.mk (fun i => kv_range hkr i)
  have H0 := Aside0.mk (show IsD G w g (midS s keep 0) from by unfold midS; rw [midFs_0 s keep hok.len]; exact h)
  have HW := Aside0.mk (Wr.refl g w)
  obtain ⟨A0, c0, rfl, _, _⟩ := hk.slice
  have hm := Kd.C_max (Kd.V_reads' hk).2.2
  clear h hok hk hkr
  go_enter Try.func69, Try.ntmps69
  go_wp2_with (fail)
  go_loopw [6] (fun v6 wr => ∃ i : Nat, i ≤ 8 ∧ v6 = .int .i64 (i : Int) ∧ Aside0 (IsD G wr g (midS s keep i)) ∧ Aside0 (Wr g w wr)) (fun v6 _ => (8 - intOf v6).toNat)
  case atStart => exact ⟨0, by omega, rfl, H0, HW⟩
  case round =>
    obtain ⟨i, hi, rfl, H, HW⟩ := hrel
    clear H0
    by_cases hlt : i < 8
    · obtain ⟨hG, hgg, d, hA, hR⟩ := H.out
      have HG := Aside0.mk (And.intro hG hgg)
      have HA := Aside0.mk hA
      have HRS := Aside0.mk hR
      obtain ⟨f1, f2, f3⟩ := hR.2.2.2.2.2.2 i hlt
      rw [fl_mid s keep i i hlt, if_neg (Nat.lt_irrefl i)] at f1 f2 f3
      obtain ⟨A, c, hv, hvc, hC0⟩ := f1.slice
      obtain ⟨B, b, hx, hxc, hC1⟩ := f2.slice
      have hs := hA.sv hlt
      have hl := hA.lv hlt
      have hc := hA.cl hlt
      rw [hv] at hs
      rw [hx] at hl
      rw [f3] at hc
      have hfs := hA.frozen (3 + i * 3)
      have hfl := hA.frozen (3 + i * 3 + 1)
      have hfc := hA.frozen (3 + i * 3 + 2)
      have HGL := Aside0.mk hA.lt
      have HC0 := Aside0.mk hC0
      have HC1 := Aside0.mk hC1
      have hff := HOK.out.fl_mem hlt
      have HAF := Aside0.mk (fun (W : World) (q0 : (Kd.int .u8).C W A (fl s i).seen.length (fl s i).seen) (q1 : (Kd.int .u8).C W B (fl s i).lasts.length (fl s i).lasts) => after_calls A c B b (fl s i) (kv keep i) W (HKR.out i) q0 hvc q1 hxc (fun e => by
        obtain ⟨t, ht⟩ := HOK.out.pre _ hff e
        rw [ht, List.length_append]; omega) (HOK.out.seen_le hlt) (HOK.out.big _ hff))
      have HST := Aside0.mk (mid_set s keep hlt)
      have HAE := Aside0.mk (after_eq (fl s i) (kv keep i))
      rw [HAE.out] at HST
      clear hG hgg hA hR f1 f2 f3 hv hvc hC0 hx hxc hC1 hff H
      generalize (fl s i).seen.length = n at *
      generalize (fl s i).lasts.length = m at *
      generalize (fl s i).cl = cl at *
      by_cases hkl : i < keep.length
      case' pos =>
        obtain ⟨ad, e0, hcell⟩ := Kd.at_int (Kd.V_reads' (Kd.V_step HK.out (fun b hb hlt => HW.out.block b hlt (fun e => hb e)))).2.2 (i : Int) (by omega) (by omega)
        cases e0
        rw [Int.toNat_natCast] at hcell
        have HKE := Aside0.mk (show kv keep i = rd keep (i : Int) by unfold kv; rw [if_pos hkl])
        rw [← HKE.out] at hcell
      case' neg =>
        have HKE := Aside0.mk (show kv keep i = -1 by unfold kv; rw [if_neg hkl])
        rw [HKE.out] at HAF HST HAE
      case pos =>
        generalize kv keep i = k at *
        go_wp2
        clear hcell
        refine start_ (n := 14) (S := fun w' => w'.cell? ⟨g, 3 + i * 3, none⟩ = some (.slice A n c) ∧ w'.cell? ⟨g, 3 + i * 3 + 1, none⟩ = some (.slice B m b) ∧ w'.cell? ⟨g, 3 + i * 3 + 2, none⟩ = some (.bool cl) ∧ w'.frozen? ⟨g, 3 + i * 3, none⟩ = false ∧ w'.frozen? ⟨g, 3 + i * 3 + 1, none⟩ = false ∧ w'.frozen? ⟨g, 3 + i * 3 + 2, none⟩ = false) (ds := [13]) #[false, false, false, false, false, false, false, false, false, false, false, false, false, false] (by kernel_rfl) rfl rfl ⟨hs, hl, hc, hfs, hfl, hfc⟩ (fun hHeld => ?_)
        refine pure_ (i := 0) (N := some 17) (v := ?_) (a' := ?_) #[true, false, false, false, false, false, false, false, false, false, false, false, false, false] rfl rfl (by kernel_rfl) (fun _ _ _ h => h) (Or.inl ⟨by rfl, ?_⟩) ?_ ?_
        rotate_left
        · intro w'
          go_simp
          with_reducible rfl
        rotate_left
        · simp only [Act.put, List.setIfInBounds_toArray, List.set_cons_zero, List.set_cons_succ, i64_w, i32_w]
          rfl
        refine pure_ (i := 1) (N := some 18) (v := ?_) (a' := ?_) #[true, true, false, false, false, false, false, false, false, false, false, false, false, false] rfl rfl (by kernel_rfl) (fun _ _ _ h => h) (Or.inl ⟨by rfl, ?_⟩) ?_ ?_
        rotate_left
        · intro w'
          go_simp
          with_reducible rfl
        rotate_left
        · simp only [Act.put, List.setIfInBounds_toArray, List.set_cons_zero, List.set_cons_succ, i64_w, i32_w]
          rfl
        refine pure_ (i := 2) (N := some 19) (v := ?_) (a' := ?_) #[true, true, true, false, false, false, false, false, false, false, false, false, false, false] rfl rfl (by kernel_rfl) (fun _ _ _ h => h) (Or.inl ⟨by rfl, ?_⟩) ?_ ?_
        rotate_left
        · intro w'
          go_simp
          with_reducible rfl
        rotate_left
        · simp only [Act.put, List.setIfInBounds_toArray, List.set_cons_zero, List.set_cons_succ, i64_w, i32_w]
          rfl
        refine pure_ (i := 3) (N := some 20) (v := ?_) (a' := ?_) #[true, true, true, true, false, false, false, false, false, false, false, false, false, false] rfl rfl (by kernel_rfl) (fun _ _ _ h => h) (Or.inl ⟨by rfl, ?_⟩) ?_ ?_
        rotate_left
        · intro w'
          go_simp
          with_reducible rfl
        rotate_left
        · simp only [Act.put, List.setIfInBounds_toArray, List.set_cons_zero, List.set_cons_succ, i64_w, i32_w]
          rfl
        refine pure_ (i := 4) (N := some 21) (v := ?_) (a' := ?_) #[true, true, true, true, true, false, false, false, false, false, false, false, false, false] rfl rfl (by kernel_rfl) (fun _ _ _ h => h) (Or.inl ⟨by rfl, ?_⟩) ?_ ?_
        rotate_left
        · intro w'
          go_simp
          with_reducible rfl
        rotate_left
        · simp only [Act.put, List.setIfInBounds_toArray, List.set_cons_zero, List.set_cons_succ, i64_w, i32_w]
          rfl
        refine pure_ (i := 5) (N := some 22) (v := ?_) (a' := ?_) #[true, true, true, true, true, true, false, false, false, false, false, false, false, false] rfl rfl (by kernel_rfl) (fun _ _ _ h => h) (Or.inl ⟨by rfl, ?_⟩) ?_ ?_
        rotate_left
        · intro w'
          go_simp
          with_reducible rfl
        rotate_left
        · simp only [Act.put, List.setIfInBounds_toArray, List.set_cons_zero, List.set_cons_succ, i64_w, i32_w]
          rfl
        refine pure_ (i := 6) (N := some 23) (v := ?_) (a' := ?_) #[true, true, true, true, true, true, true, false, false, false, false, false, false, false] rfl rfl (by kernel_rfl) (fun _ _ _ h => h) (Or.inl ⟨by rfl, ?_⟩) ?_ ?_
        rotate_left
        · intro w'
          go_simp
          with_reducible rfl
        rotate_left
        · simp only [Act.put, List.setIfInBounds_toArray, List.set_cons_zero, List.set_cons_succ, i64_w, i32_w]
          rfl
        refine pure_ (i := 8) (N := some 25) (v := ?_) (a' := ?_) #[true, true, true, true, true, true, true, false, true, false, false, false, false, false] rfl rfl (by kernel_rfl) (fun _ _ _ h => h) (Or.inl ⟨by rfl, ?_⟩) ?_ ?_
        rotate_left
        · intro w'
          go_simp
          with_reducible rfl
        rotate_left
        · simp only [Act.put, List.setIfInBounds_toArray, List.set_cons_zero, List.set_cons_succ, i64_w, i32_w]
          rfl
        refine pure_ (i := 10) (N := some 27) (v := ?_) (a' := ?_) #[true, true, true, true, true, true, true, false, true, false, true, false, false, false] rfl rfl (by kernel_rfl) (fun _ _ _ h => h) (Or.inl ⟨by rfl, ?_⟩) ?_ ?_
        rotate_left
        · intro w'
          go_simp
          with_reducible rfl
        rotate_left
        · simp only [Act.put, List.setIfInBounds_toArray, List.set_cons_zero, List.set_cons_succ, i64_w, i32_w]
          rfl
        refine pure_ (i := 11) (N := some 28) (v := ?_) (a' := ?_) #[true, true, true, true, true, true, true, false, true, false, true, true, false, false] rfl rfl (by kernel_rfl) (fun _ _ _ h => h) (Or.inl ⟨by rfl, ?_⟩) ?_ ?_
        rotate_left
        · intro w'
          go_simp
          with_reducible rfl
        rotate_left
        · simp only [Act.put, List.setIfInBounds_toArray, List.set_cons_zero, List.set_cons_succ, i64_w, i32_w]
          rfl
        refine take_ (i := 7) (N := some 24) (v := ?_) (a' := ?_) #[true, true, true, true, true, true, true, true, true, false, true, true, false, false] rfl rfl (by kernel_rfl) (fun _ _ _ h => h) (Or.inl ⟨by rfl, ?_⟩) hHeld ?_ ?_
        rotate_left
        · rintro w' ⟨s0, s1, s2, s3, s4, s5⟩
          go_simp
          with_reducible rfl
        rotate_left
        · simp only [Act.put, List.setIfInBounds_toArray, List.set_cons_zero, List.set_cons_succ, i64_w, i32_w]
          rfl
        refine one_ (i := 9) (N := some 26) #[true, true, true, true, true, true, true, true, true, true, true, true, false, false] rfl rfl (by kernel_rfl) (by decide) (fun K hK => ?_)
        refine goes_ Try.func88 (by kernel_rfl) rfl #[.agg #[.slice A n c, .slice B m b, .bool cl], .int .i64 k] (by rfl) rfl rfl (by first | rfl | (simp; done) | (simp only [List.map_toArray, List.map_cons, List.map_nil]; rfl)) ?_
        with_reducible refine (HAF.out _ (by repeat (first | exact HC0.out | (with_reducible refine Kd.C_drew ?_) | (with_reducible refine Kd.C_drewN ?_ _))) (by repeat (first | exact HC1.out | (with_reducible refine Kd.C_drew ?_) | (with_reducible refine Kd.C_drewN ?_ _)))).mono ?_
        rintro e w3 ⟨v, rfl, hR, hb⟩
        refine ⟨_, rfl, ?_⟩
        obtain ⟨A3, c3, e3⟩ := Kd.R_slice hR
        subst e3
        refine hK.out _ _ ⟨(hb.cell (p := ⟨g, 3 + i * 3, none⟩) HGL.out).trans hHeld.1, (hb.cell (p := ⟨g, 3 + i * 3 + 1, none⟩) HGL.out).trans hHeld.2.1, (hb.cell (p := ⟨g, 3 + i * 3 + 2, none⟩) HGL.out).trans hHeld.2.2.1, (hb.frozen (p := ⟨g, 3 + i * 3, none⟩) HGL.out).trans hHeld.2.2.2.1, (hb.frozen (p := ⟨g, 3 + i * 3 + 1, none⟩) HGL.out).trans hHeld.2.2.2.2.1, (hb.frozen (p := ⟨g, 3 + i * 3 + 2, none⟩) HGL.out).trans hHeld.2.2.2.2.2⟩ (fun hHeld => ?_)
        clear hK K
        refine norm_ (a' := ?_) ?_ ?_
        rotate_left
        · show Act.put _ (some 26) _ = _
          simp only [Act.put, List.setIfInBounds_toArray, List.set_cons_zero, List.set_cons_succ, i64_w, i32_w]
          rfl
        refine pure_ (i := 12) (N := some 29) (v := ?_) (a' := ?_) #[true, true, true, true, true, true, true, true, true, true, true, true, true, false] rfl rfl (by kernel_rfl) (fun _ _ _ h => h) (Or.inl ⟨by rfl, ?_⟩) ?_ ?_
        rotate_left
        · intro w'
          go_simp
          with_reducible rfl
        rotate_left
        · simp only [Act.put, List.setIfInBounds_toArray, List.set_cons_zero, List.set_cons_succ, i64_w, i32_w]
          rfl
        refine last_ (i := 13) (N := none) #[true, true, true, true, true, true, true, true, true, true, true, true, true, true] rfl rfl (by kernel_rfl) (by decide) (fun K hK => ?_)
        obtain ⟨hx0, hx1, hx2, hy0, hy1, hy2⟩ := hHeld
        refine skip_ (w1 := ?_) (by rfl) rfl ?_ ?_
        rotate_left
        · go_simp
          rfl
        refine hK.out _ _ ?_
        clear hK K
        refine done_ (by kernel_rfl) ?_
        have HB3 := Aside0.mk (below_step (below_drew1 (Below.refl wr.heap.size wr)) hb)
        have HR3 := Aside0.mk hR
        clear hb hR hHeld hs hl hc hfs hfl hfc
        go_wp2
        go_roundw
        case rel =>
          have hw3 : Wr g wr w3 := Wr.of_below HB3.out
          have hA3 := HA.out.same (HB3.out.block g HGL.out)
          have hRw := Rw.of_R HR3.out (G := G) (fun b hb => HG.out.1 b hb)
          have hA4 := hA3.set3 hlt (.slice A3 (afterB (fl s i) k).length c3) (.slice A3 (afterB (fl s i) k).length c3) false
          have hw4 := ((hw3.set (3 + i * 3) (.slice A3 (afterB (fl s i) k).length c3)).set (3 + i * 3 + 1) (.slice A3 (afterB (fl s i) k).length c3)).set (3 + i * 3 + 2) (.bool false)
          have hw43 := (((Wr.refl g w3).set (3 + i * 3) (.slice A3 (afterB (fl s i) k).length c3)).set (3 + i * 3 + 1) (.slice A3 (afterB (fl s i) k).length c3)).set (3 + i * 3 + 2) (.bool false)
          refine ⟨i + 1, by omega, by go_num, ⟨?_⟩, ⟨HW.out.trans hw4⟩⟩
          have hRw4 := hRw.wr hw43 HG.out.2
          exact ⟨fun b hb => Nat.lt_of_lt_of_le (HG.out.1 b hb) hw4.size, HG.out.2, _, hA4, (HRS.out.wr hw4 HG.out.2).file HA.out.1 hlt (f := ⟨afterB (fl s i) k, afterB (fl s i) k, false⟩) ⟨hRw4, hRw4, rfl⟩ rfl HST.out⟩
        case measure => simp [intOf]; omega
      case neg =>
        go_wp2
        refine start_ (n := 14) (S := fun w' => w'.cell? ⟨g, 3 + i * 3, none⟩ = some (.slice A n c) ∧ w'.cell? ⟨g, 3 + i * 3 + 1, none⟩ = some (.slice B m b) ∧ w'.cell? ⟨g, 3 + i * 3 + 2, none⟩ = some (.bool cl) ∧ w'.frozen? ⟨g, 3 + i * 3, none⟩ = false ∧ w'.frozen? ⟨g, 3 + i * 3 + 1, none⟩ = false ∧ w'.frozen? ⟨g, 3 + i * 3 + 2, none⟩ = false) (ds := [13]) #[false, false, false, false, false, false, false, false, false, false, false, false, false, false] (by kernel_rfl) rfl rfl ⟨hs, hl, hc, hfs, hfl, hfc⟩ (fun hHeld => ?_)
        refine pure_ (i := 0) (N := some 17) (v := ?_) (a' := ?_) #[true, false, false, false, false, false, false, false, false, false, false, false, false, false] rfl rfl (by kernel_rfl) (fun _ _ _ h => h) (Or.inl ⟨by rfl, ?_⟩) ?_ ?_
        rotate_left
        · intro w'
          go_simp
          with_reducible rfl
        rotate_left
        · simp only [Act.put, List.setIfInBounds_toArray, List.set_cons_zero, List.set_cons_succ, i64_w, i32_w]
          rfl
        refine pure_ (i := 1) (N := some 18) (v := ?_) (a' := ?_) #[true, true, false, false, false, false, false, false, false, false, false, false, false, false] rfl rfl (by kernel_rfl) (fun _ _ _ h => h) (Or.inl ⟨by rfl, ?_⟩) ?_ ?_
        rotate_left
        · intro w'
          go_simp
          with_reducible rfl
        rotate_left
        · simp only [Act.put, List.setIfInBounds_toArray, List.set_cons_zero, List.set_cons_succ, i64_w, i32_w]
          rfl
        refine pure_ (i := 2) (N := some 19) (v := ?_) (a' := ?_) #[true, true, true, false, false, false, false, false, false, false, false, false, false, false] rfl rfl (by kernel_rfl) (fun _ _ _ h => h) (Or.inl ⟨by rfl, ?_⟩) ?_ ?_
        rotate_left
        · intro w'
          go_simp
          with_reducible rfl
        rotate_left
        · simp only [Act.put, List.setIfInBounds_toArray, List.set_cons_zero, List.set_cons_succ, i64_w, i32_w]
          rfl
        refine pure_ (i := 3) (N := some 20) (v := ?_) (a' := ?_) #[true, true, true, true, false, false, false, false, false, false, false, false, false, false] rfl rfl (by kernel_rfl) (fun _ _ _ h => h) (Or.inl ⟨by rfl, ?_⟩) ?_ ?_
        rotate_left
        · intro w'
          go_simp
          with_reducible rfl
        rotate_left
        · simp only [Act.put, List.setIfInBounds_toArray, List.set_cons_zero, List.set_cons_succ, i64_w, i32_w]
          rfl
        refine pure_ (i := 4) (N := some 21) (v := ?_) (a' := ?_) #[true, true, true, true, true, false, false, false, false, false, false, false, false, false] rfl rfl (by kernel_rfl) (fun _ _ _ h => h) (Or.inl ⟨by rfl, ?_⟩) ?_ ?_
        rotate_left
        · intro w'
          go_simp
          with_reducible rfl
        rotate_left
        · simp only [Act.put, List.setIfInBounds_toArray, List.set_cons_zero, List.set_cons_succ, i64_w, i32_w]
          rfl
        refine pure_ (i := 5) (N := some 22) (v := ?_) (a' := ?_) #[true, true, true, true, true, true, false, false, false, false, false, false, false, false] rfl rfl (by kernel_rfl) (fun _ _ _ h => h) (Or.inl ⟨by rfl, ?_⟩) ?_ ?_
        rotate_left
        · intro w'
          go_simp
          with_reducible rfl
        rotate_left
        · simp only [Act.put, List.setIfInBounds_toArray, List.set_cons_zero, List.set_cons_succ, i64_w, i32_w]
          rfl
        refine pure_ (i := 6) (N := some 23) (v := ?_) (a' := ?_) #[true, true, true, true, true, true, true, false, false, false, false, false, false, false] rfl rfl (by kernel_rfl) (fun _ _ _ h => h) (Or.inl ⟨by rfl, ?_⟩) ?_ ?_
        rotate_left
        · intro w'
          go_simp
          with_reducible rfl
        rotate_left
        · simp only [Act.put, List.setIfInBounds_toArray, List.set_cons_zero, List.set_cons_succ, i64_w, i32_w]
          rfl
        refine pure_ (i := 8) (N := some 25) (v := ?_) (a' := ?_) #[true, true, true, true, true, true, true, false, true, false, false, false, false, false] rfl rfl (by kernel_rfl) (fun _ _ _ h => h) (Or.inl ⟨by rfl, ?_⟩) ?_ ?_
        rotate_left
        · intro w'
          go_simp
          with_reducible rfl
        rotate_left
        · simp only [Act.put, List.setIfInBounds_toArray, List.set_cons_zero, List.set_cons_succ, i64_w, i32_w]
          rfl
        refine pure_ (i := 10) (N := some 27) (v := ?_) (a' := ?_) #[true, true, true, true, true, true, true, false, true, false, true, false, false, false] rfl rfl (by kernel_rfl) (fun _ _ _ h => h) (Or.inl ⟨by rfl, ?_⟩) ?_ ?_
        rotate_left
        · intro w'
          go_simp
          with_reducible rfl
        rotate_left
        · simp only [Act.put, List.setIfInBounds_toArray, List.set_cons_zero, List.set_cons_succ, i64_w, i32_w]
          rfl
        refine pure_ (i := 11) (N := some 28) (v := ?_) (a' := ?_) #[true, true, true, true, true, true, true, false, true, false, true, true, false, false] rfl rfl (by kernel_rfl) (fun _ _ _ h => h) (Or.inl ⟨by rfl, ?_⟩) ?_ ?_
        rotate_left
        · intro w'
          go_simp
          with_reducible rfl
        rotate_left
        · simp only [Act.put, List.setIfInBounds_toArray, List.set_cons_zero, List.set_cons_succ, i64_w, i32_w]
          rfl
        refine take_ (i := 7) (N := some 24) (v := ?_) (a' := ?_) #[true, true, true, true, true, true, true, true, true, false, true, true, false, false] rfl rfl (by kernel_rfl) (fun _ _ _ h => h) (Or.inl ⟨by rfl, ?_⟩) hHeld ?_ ?_
        rotate_left
        · rintro w' ⟨s0, s1, s2, s3, s4, s5⟩
          go_simp
          with_reducible rfl
        rotate_left
        · simp only [Act.put, List.setIfInBounds_toArray, List.set_cons_zero, List.set_cons_succ, i64_w, i32_w]
          rfl
        refine one_ (i := 9) (N := some 26) #[true, true, true, true, true, true, true, true, true, true, true, true, false, false] rfl rfl (by kernel_rfl) (by decide) (fun K hK => ?_)
        refine goes_ Try.func88 (by kernel_rfl) rfl #[.agg #[.slice A n c, .slice B m b, .bool cl], .int .i64 (-1)] (by rfl) rfl rfl (by first | rfl | (simp; done) | (simp only [List.map_toArray, List.map_cons, List.map_nil]; rfl)) ?_
        with_reducible refine (HAF.out _ (by repeat (first | exact HC0.out | (with_reducible refine Kd.C_drew ?_) | (with_reducible refine Kd.C_drewN ?_ _))) (by repeat (first | exact HC1.out | (with_reducible refine Kd.C_drew ?_) | (with_reducible refine Kd.C_drewN ?_ _)))).mono ?_
        rintro e w3 ⟨v, rfl, hR, hb⟩
        refine ⟨_, rfl, ?_⟩
        obtain ⟨A3, c3, e3⟩ := Kd.R_slice hR
        subst e3
        refine hK.out _ _ ⟨(hb.cell (p := ⟨g, 3 + i * 3, none⟩) HGL.out).trans hHeld.1, (hb.cell (p := ⟨g, 3 + i * 3 + 1, none⟩) HGL.out).trans hHeld.2.1, (hb.cell (p := ⟨g, 3 + i * 3 + 2, none⟩) HGL.out).trans hHeld.2.2.1, (hb.frozen (p := ⟨g, 3 + i * 3, none⟩) HGL.out).trans hHeld.2.2.2.1, (hb.frozen (p := ⟨g, 3 + i * 3 + 1, none⟩) HGL.out).trans hHeld.2.2.2.2.1, (hb.frozen (p := ⟨g, 3 + i * 3 + 2, none⟩) HGL.out).trans hHeld.2.2.2.2.2⟩ (fun hHeld => ?_)
        clear hK K
        refine norm_ (a' := ?_) ?_ ?_
        rotate_left
        · show Act.put _ (some 26) _ = _
          simp only [Act.put, List.setIfInBounds_toArray, List.set_cons_zero, List.set_cons_succ, i64_w, i32_w]
          rfl
        refine pure_ (i := 12) (N := some 29) (v := ?_) (a' := ?_) #[true, true, true, true, true, true, true, true, true, true, true, true, true, false] rfl rfl (by kernel_rfl) (fun _ _ _ h => h) (Or.inl ⟨by rfl, ?_⟩) ?_ ?_
        rotate_left
        · intro w'
          go_simp
          with_reducible rfl
        rotate_left
        · simp only [Act.put, List.setIfInBounds_toArray, List.set_cons_zero, List.set_cons_succ, i64_w, i32_w]
          rfl
        refine last_ (i := 13) (N := none) #[true, true, true, true, true, true, true, true, true, true, true, true, true, true] rfl rfl (by kernel_rfl) (by decide) (fun K hK => ?_)
        obtain ⟨hx0, hx1, hx2, hy0, hy1, hy2⟩ := hHeld
        refine skip_ (w1 := ?_) (by rfl) rfl ?_ ?_
        rotate_left
        · go_simp
          rfl
        refine hK.out _ _ ?_
        clear hK K
        refine done_ (by kernel_rfl) ?_
        have HB3 := Aside0.mk (below_step (below_drew1 (Below.refl wr.heap.size wr)) hb)
        have HR3 := Aside0.mk hR
        clear hb hR hHeld hs hl hc hfs hfl hfc
        go_wp2
        go_roundw
        case rel =>
          have hw3 : Wr g wr w3 := Wr.of_below HB3.out
          have hA3 := HA.out.same (HB3.out.block g HGL.out)
          have hRw := Rw.of_R HR3.out (G := G) (fun b hb => HG.out.1 b hb)
          have hA4 := hA3.set3 hlt (.slice A3 (afterB (fl s i) (-1)).length c3) (.slice A3 (afterB (fl s i) (-1)).length c3) false
          have hw4 := ((hw3.set (3 + i * 3) (.slice A3 (afterB (fl s i) (-1)).length c3)).set (3 + i * 3 + 1) (.slice A3 (afterB (fl s i) (-1)).length c3)).set (3 + i * 3 + 2) (.bool false)
          have hw43 := (((Wr.refl g w3).set (3 + i * 3) (.slice A3 (afterB (fl s i) (-1)).length c3)).set (3 + i * 3 + 1) (.slice A3 (afterB (fl s i) (-1)).length c3)).set (3 + i * 3 + 2) (.bool false)
          refine ⟨i + 1, by omega, by go_num, ⟨?_⟩, ⟨HW.out.trans hw4⟩⟩
          have hRw4 := hRw.wr hw43 HG.out.2
          exact ⟨fun b hb => Nat.lt_of_lt_of_le (HG.out.1 b hb) hw4.size, HG.out.2, _, hA4, (HRS.out.wr hw4 HG.out.2).file HA.out.1 hlt (f := ⟨afterB (fl s i) (-1), afterB (fl s i) (-1), false⟩) ⟨hRw4, hRw4, rfl⟩ rfl HST.out⟩
        case measure => simp [intOf]; omega
    · obtain rfl : i = 8 := by omega
      rw [show ((8 : Nat) : Int) = 8 from rfl]
      have HE := Aside0.mk (midFs_8 s keep HOK.out.len)
      obtain ⟨hG, hgg, d, hA, hR⟩ := H.out
      have hc0 := hA.c0
      have hc1 := hA.c1
      have hc2 := hA.c2
      have hc28 := hA.c28
      have hf0 := hA.frozen 0
      have hf1 := hA.frozen 1
      have hf2 := hA.frozen 2
      have hf28 := hA.frozen 28
      obtain ⟨A, c, hv, _, _⟩ := hR.2.2.1.slice
      rw [hv] at hc2
      have HA := Aside0.mk hA
      have HR := Aside0.mk hR
      clear hA hR hlt hi hv hG hgg
      go_wp2
      first | go_end0 | ((try simp only [Exit.inBlock, Exit.then]); refine bodyPost_ret (results_none rfl _ _ _) rfl ?_)
      have hA4 := (((HA.out.set28 true).set0 false).set1 0).set2 (.slice none 0 0)
      have hw4 := (((((Wr.refl g wr).set 28 (.bool true)).set 0 (.bool false)).set 1 (.int .i64 0)).set 2 (.slice none 0 0))
      refine ⟨rfl, ?_, HW.out.trans hw4⟩
      have hr := HR.out.wr hw4 H.out.gg
      refine ⟨fun b hb => Nat.lt_of_lt_of_le (H.out.lt b hb) hw4.size, H.out.gg, _, hA4, rfl, rfl, Rw.nil _ _ _, hr.2.2.2.1, rfl, ?_, ?_⟩
      · show (fallFs keep 0 s.fs).length = 8
        rw [← HE.out]; exact midFs_len _ _ _
      · intro j hj
        have h7 := hr.2.2.2.2.2.2 j hj
        have e : fl (fallP s keep) j = fl (midS s keep 8) j := by
          unfold fl fallP midS
          simp only
          rw [← HE.out]
        rw [e]
        exact h7
end Go.Proofs.Ytehjbhnlbjbhfaa.Dk
-- DkF
namespace Go.Proofs.Ytehjbhnlbjbhfaa.Dk
open Go Go.RowKit Go.Proofs.YtehjbhnlbjbhfaaW.PrintWords Go.Proofs.YtehjbhnlbjbhfaaW.PrintLast Go.Proofs.YtehjbhnlbjbhfaaW.PrintMore
open Go.Proofs.Ytehjbhnlbjbhfaa.PDiskBegins
set_option linter.unusedVariables false
set_option linter.unusedSimpArgs false
theorem f_set (d : DV) (x : FV) {i : Nat} (hd : d.fs.length = 8) (hi : i < 8) : (DV.f { d with fs := d.fs.set i x } i) = x := by
  unfold DV.f
  rw [List.getD_eq_getElem?_getD, List.getElem?_set_self (by rw [hd]; exact hi)]; rfl
theorem At.setSC {W : World} {g : Nat} {d : DV} (h : At W g d) {i : Nat} (hi : i < 8) (v : Value) (b : Bool) : At ((W.setCell ⟨g, 3 + i * 3, none⟩ v).setCell ⟨g, 3 + i * 3 + 2, none⟩ (.bool b)) g { d with fs := d.fs.set i ⟨v, (d.f i).lv, b⟩ } := by
  have h3 := (h.setS hi v).setC hi b
  rw [f_set d _ h.1 hi] at h3
  simpa only [List.set_set] using h3
theorem At.setLC {W : World} {g : Nat} {d : DV} (h : At W g d) {i : Nat} (hi : i < 8) (v : Value) (b : Bool) : At ((W.setCell ⟨g, 3 + i * 3 + 1, none⟩ v).setCell ⟨g, 3 + i * 3 + 2, none⟩ (.bool b)) g { d with fs := d.fs.set i ⟨(d.f i).sv, v, b⟩ } := by
  have h3 := (h.setL hi v).setC hi b
  rw [f_set d _ h.1 hi] at h3
  simpa only [List.set_set] using h3
theorem At.drew {W : World} {g : Nat} {d : DV} (h : At W g d) : At W.drew g d := h
theorem Wr.drew {g : Nat} {w w1 : World} (h : Wr g w w1) : Wr g w w1.drew := ⟨h.os, h.tape, h.output, h.size, h.block⟩
theorem IsD.file {G : Nat → Prop} {g : Nat} {W W' : World} {d : DV} {s : DS} {i : Nat} {v : FV} {f : Fl} (h : IsD G W g s) (hA : d.fs.length = 8) (hR : Rows G W d s) (hi : i < 8) (hA' : At W' g { d with fs := d.fs.set i v }) (hw : Wr g W W') (hf : FR G W' v f) : IsD G W' g (setF s i f) :=
  ⟨fun b hb => Nat.lt_of_lt_of_le (h.lt b hb) hw.size, h.gg, _, hA', (hR.wr hw h.gg).file hA hi hf rfl rfl⟩
set_option maxHeartbeats 8000000 in
set_option maxRecDepth 100000 in
theorem c47_calls (G : Nat → Prop) (g : Nat) (s : DS) (i n : Nat) (b1 b2 : Nat) (w : World) (h : IsD G w g s) (hi : i < 8) (h1 : w.cell? ⟨b1, 0, none⟩ = some (.pointer (some ⟨g, 0, none⟩))) (h2 : w.cell? ⟨b2, 0, none⟩ = some (.int .i64 (i : Int))) (n1 : b1 ≠ g) (n2 : b2 ≠ g) :
    Calls Try.prog 73 #[.int .i64 (n : Int), .pointer (some ⟨b1, 0, none⟩), .pointer (some ⟨b2, 0, none⟩)] w fun e w' => e = .returned (.tuple #[]) ∧ IsD G w' g (doneC i s n) ∧ Wr g w w' := by
  have H := Aside0.mk h
  obtain ⟨_, _, d, hA, hR⟩ := h
  have HA := Aside0.mk hA
  have HR := Aside0.mk hR
  by_cases c : n = 1
  · have HD := Aside0.mk (show doneC i s n = setF s i ⟨[], (fl s i).lasts, true⟩ by unfold doneC; rw [if_pos c])
    rw [HD.out]
    subst c
    rw [show ((1 : Nat) : Int) = 1 from rfl]
    obtain ⟨A, cc, hv, _, _⟩ := (hR.2.2.2.2.2.2 i hi).1.slice
    obtain ⟨B, bb, hx, _, _⟩ := (hR.2.2.2.2.2.2 i hi).2.1.slice
    have HV := Aside0.mk hv
    have hs := hA.sv hi
    have hl := hA.lv hi
    rw [hv] at hs
    rw [hx] at hl
    have hc := hA.cl hi
    have hfs := hA.frozen (3 + i * 3)
    have hfl := hA.frozen (3 + i * 3 + 1)
    have hfc := hA.frozen (3 + i * 3 + 2)
    clear hA hR hv hx
    go_enter Try.func73, Try.ntmps73
    go_wp2
    go_region
    first | go_end0 | ((try simp only [Exit.inBlock, Exit.then]); refine bodyPost_ret (results_none rfl _ _ _) rfl ?_)
    have hw := (((Wr.refl g w).set (3 + i * 3) (.slice none 0 0)).set (3 + i * 3 + 2) (.bool true)).drew
    refine ⟨rfl, H.out.file HA.out.1 HR.out hi (HA.out.setSC hi (.slice none 0 0) true).drew hw ?_, hw⟩
    exact ⟨Rw.nil _ _ _, (HR.out.2.2.2.2.2.2 i hi).2.1.wr hw H.out.gg, rfl⟩
  · have HD := Aside0.mk (show doneC i s n = s by unfold doneC; rw [if_neg c])
    rw [HD.out]
    have c1 : ((n : Int) == (1 : Int)) = false := by simp only [beq_eq_false_iff_ne]; omega
    have c2 : decide (n = 1) = false := decide_eq_false c
    clear c hA hR
    go_enter Try.func73, Try.ntmps73
    go_wp2
    first | go_end0 | ((try simp only [Exit.inBlock, Exit.then]); refine bodyPost_ret (results_none rfl _ _ _) rfl ?_)
    exact ⟨rfl, H.out, Wr.refl _ _⟩
set_option maxHeartbeats 8000000 in
set_option maxRecDepth 100000 in
theorem c44_calls (G : Nat → Prop) (g : Nat) (s : DS) (i n : Nat) (b1 b2 : Nat) (w : World) (h : IsD G w g s) (hi : i < 8) (h1 : w.cell? ⟨b1, 0, none⟩ = some (.pointer (some ⟨g, 0, none⟩))) (h2 : w.cell? ⟨b2, 0, none⟩ = some (.int .i64 (i : Int))) (n1 : b1 ≠ g) (n2 : b2 ≠ g) :
    Calls Try.prog 72 #[.int .i64 (n : Int), .pointer (some ⟨b1, 0, none⟩), .pointer (some ⟨b2, 0, none⟩)] w fun e w' => e = .returned (.tuple #[]) ∧ IsD G w' g (doneY i s n) ∧ Wr g w w' := by
  have H := Aside0.mk h
  obtain ⟨_, _, d, hA, hR⟩ := h
  have HA := Aside0.mk hA
  have HR := Aside0.mk hR
  by_cases c : n = 1
  · have HD := Aside0.mk (show doneY i s n = setF s i ⟨(fl s i).seen, (fl s i).seen, false⟩ by unfold doneY; rw [if_pos c])
    rw [HD.out]
    subst c
    rw [show ((1 : Nat) : Int) = 1 from rfl]
    obtain ⟨A, cc, hv, _, _⟩ := (hR.2.2.2.2.2.2 i hi).1.slice
    obtain ⟨B, bb, hx, _, _⟩ := (hR.2.2.2.2.2.2 i hi).2.1.slice
    have HV := Aside0.mk hv
    have hs := hA.sv hi
    have hl := hA.lv hi
    rw [hv] at hs
    rw [hx] at hl
    have hc := hA.cl hi
    have hfs := hA.frozen (3 + i * 3)
    have hfl := hA.frozen (3 + i * 3 + 1)
    have hfc := hA.frozen (3 + i * 3 + 2)
    clear hA hR hv hx
    go_enter Try.func72, Try.ntmps72
    go_wp2
    go_region
    first | go_end0 | ((try simp only [Exit.inBlock, Exit.then]); refine bodyPost_ret (results_none rfl _ _ _) rfl ?_)
    have hw := (((Wr.refl g w).set (3 + i * 3 + 1) (.slice A (fl s i).seen.length cc)).set (3 + i * 3 + 2) (.bool false)).drew
    refine ⟨rfl, H.out.file HA.out.1 HR.out hi (HA.out.setLC hi (.slice A (fl s i).seen.length cc) false).drew hw ?_, hw⟩
    exact ⟨(HR.out.2.2.2.2.2.2 i hi).1.wr hw H.out.gg, by have h9 := (HR.out.2.2.2.2.2.2 i hi).1; rw [HV.out] at h9; exact h9.wr hw H.out.gg, rfl⟩
  · have HD := Aside0.mk (show doneY i s n = s by unfold doneY; rw [if_neg c])
    rw [HD.out]
    have c1 : ((n : Int) == (1 : Int)) = false := by simp only [beq_eq_false_iff_ne]; omega
    have c2 : decide (n = 1) = false := decide_eq_false c
    clear c hA hR
    go_enter Try.func72, Try.ntmps72
    go_wp2
    first | go_end0 | ((try simp only [Exit.inBlock, Exit.then]); refine bodyPost_ret (results_none rfl _ _ _) rfl ?_)
    exact ⟨rfl, H.out, Wr.refl _ _⟩
end Go.Proofs.Ytehjbhnlbjbhfaa.Dk
-- DkG
namespace Go.Proofs.Ytehjbhnlbjbhfaa.Dk
open Go Go.RowKit Go.Proofs.YtehjbhnlbjbhfaaW.PrintWords Go.Proofs.YtehjbhnlbjbhfaaW.PrintLast Go.Proofs.YtehjbhnlbjbhfaaW.PrintMore
open Go.Proofs.Ytehjbhnlbjbhfaa.PDiskBegins
set_option linter.unusedVariables false
set_option linter.unusedSimpArgs false
theorem Rw.one {G : Nat → Prop} {g : Nat} {k : IntKind} {W : World} {v : Value} {xs : List Int} (h : Rw G k W v xs) (hg : G g) : Rw (fun b => b = g) k W v xs := h.grow (fun b _ e => e ▸ hg)
theorem Wr.drew1 {g : Nat} {w w1 : World} (h : Wr g w w1) (n : Nat) : Wr g w (w1.drewN n) := ⟨h.os, h.tape, h.output, h.size, h.block⟩
set_option maxHeartbeats 8000000 in
set_option maxRecDepth 100000 in
theorem act47_calls (G : Nat → Prop) (g : Nat) (s : DS) (n : Nat) (done : DS → Nat → DS) (p1 p2 : Value) (w : World) (h : IsD G w g s) (hok : Ok s) (hn : n < 1000000000)
    (hdo : ∀ (s' : DS) (m : Nat) (w' : World), IsD G w' g s' → s'.fs = s.fs → Wr g w w' → m ≤ n → Calls Try.prog 73 #[.int .i64 (m : Int), p1, p2] w' fun e w'' => e = .returned (.tuple #[]) ∧ IsD G w'' g (done s' m) ∧ Wr g w' w'')
    (hok2 : Ok (done (burnS s n) (burnN s n))) (hkeep : (done (burnS s n) (burnN s n)).keep = s.keep) (hkr : ∀ x ∈ s.keep, -9223372036854775808 ≤ x ∧ x ≤ 9223372036854775807) :
    Calls Try.prog 64 #[.pointer (some ⟨g, 0, none⟩), .int .i64 (n : Int), .func (.func 73) #[] #[p1, p2]] w fun e w' => e = .returned (.int .i64 (actP s n done).2) ∧ IsD G w' g (actP s n done).1 ∧ Wr g w w' := by
  have H := Aside0.mk h
  have HOK := Aside0.mk hok
  have HDO := Aside0.mk hdo
  have HOK2 := Aside0.mk hok2
  have HKE := Aside0.mk hkeep
  have HKR := Aside0.mk hkr
  have HN := Aside0.mk hn
  obtain ⟨_, _, d, hA, hR⟩ := h
  have hc0 := hA.c0
  have hc1 := hA.c1
  rw [hR.1] at hc0
  rw [hR.2.1] at hc1
  have HB := Aside0.mk (burn_calls G g s n w H.out hok hn)
  have HML := Aside0.mk (show burnN s n ≤ n by
    unfold burnN
    split
    · rename_i c; have := hok.fuse c.1; omega
    · exact Nat.le_refl _)
  clear hA hR hok hdo hok2 hkeep hkr hn
  by_cases cs : s.set = true ∧ s.left ≤ (n : Int)
  · have HAP := Aside0.mk (show actP s n done = (fallP (done (burnS s n) (burnN s n)) s.keep, 50) by unfold actP; rw [if_pos (by unfold struckP; rw [cs.1, decide_eq_true cs.2]; rfl)])
    rw [HAP.out]
    rw [cs.1] at hc0
    have d1 : decide (s.left ≤ (n : Int)) = true := decide_eq_true cs.2
    clear cs
    go_enter Try.func64, Try.ntmps64
    go_wp2_with (fail)
    refine (HB.out).mono ?_
    rintro e w1 ⟨rfl, hI, hW⟩
    have HI := Aside0.mk hI
    have HW := Aside0.mk hW
    clear hI hW hc0 hc1
    go_wp2_with (fail)
    refine (HDO.out (burnS s n) (burnN s n) _ HI.out (by unfold burnS; split <;> rfl) HW.out HML.out).mono ?_
    rintro e w2 ⟨rfl, hI, hW⟩
    have HI2 := Aside0.mk hI
    have HW2 := Aside0.mk (HW.out.trans hW)
    clear hI hW HI HW
    obtain ⟨_, _, d2, hA2, hR2⟩ := HI2.out
    obtain ⟨A, c, hv, _, _⟩ := hR2.2.2.1.slice
    have hc2 := hA2.c2
    have HKV := Aside0.mk (hR2.2.2.1.one HI2.out.gg)
    rw [hv] at hc2 HKV
    rw [HKE.out] at hc2 HKV
    clear hA2 hR2 hv
    go_wp2_with (fail)
    refine (fall_calls G g _ _ s.keep _ HI2.out HOK2.out HKV.out HKR.out).mono ?_
    rintro e w3 ⟨rfl, hI, hW⟩
    have HI3 := Aside0.mk hI
    have HW3 := Aside0.mk (HW2.out.trans hW)
    clear hI hW hc2
    go_wp2
    go_ret
    exact ⟨rfl, HI3.out, HW3.out⟩
  · have HAP := Aside0.mk (show actP s n done = (done (burnS s n) (burnN s n), 0) by
      unfold actP
      rw [if_neg (by
        unfold struckP
        intro h
        rw [Bool.and_eq_true, decide_eq_true_eq] at h
        exact cs h)])
    rw [HAP.out]
    by_cases c1 : s.set = true
    case' pos =>
      rw [c1] at hc0
      have d1 : decide (s.left ≤ (n : Int)) = false := decide_eq_false (fun h => cs ⟨c1, h⟩)
    case' neg =>
      have c1' : s.set = false := by simpa using c1
      rw [c1'] at hc0
      clear c1'
    all_goals
      clear cs c1
      go_enter Try.func64, Try.ntmps64
      go_wp2_with (fail)
      refine (HB.out).mono ?_
      rintro e w1 ⟨rfl, hI, hW⟩
      have HI := Aside0.mk hI
      have HW := Aside0.mk hW
      clear hI hW hc0 hc1
      go_wp2_with (fail)
      refine (HDO.out (burnS s n) (burnN s n) _ HI.out (by unfold burnS; split <;> rfl) HW.out HML.out).mono ?_
      rintro e w2 ⟨rfl, hI, hW⟩
      have HI2 := Aside0.mk hI
      have HW2 := Aside0.mk (HW.out.trans hW)
      clear hI hW HI HW
      go_wp2
      go_ret
      exact ⟨rfl, HI2.out, HW2.out⟩
set_option maxHeartbeats 8000000 in
set_option maxRecDepth 100000 in
theorem act44_calls (G : Nat → Prop) (g : Nat) (s : DS) (n : Nat) (done : DS → Nat → DS) (p1 p2 : Value) (w : World) (h : IsD G w g s) (hok : Ok s) (hn : n < 1000000000)
    (hdo : ∀ (s' : DS) (m : Nat) (w' : World), IsD G w' g s' → s'.fs = s.fs → Wr g w w' → m ≤ n → Calls Try.prog 72 #[.int .i64 (m : Int), p1, p2] w' fun e w'' => e = .returned (.tuple #[]) ∧ IsD G w'' g (done s' m) ∧ Wr g w' w'')
    (hok2 : Ok (done (burnS s n) (burnN s n))) (hkeep : (done (burnS s n) (burnN s n)).keep = s.keep) (hkr : ∀ x ∈ s.keep, -9223372036854775808 ≤ x ∧ x ≤ 9223372036854775807) :
    Calls Try.prog 64 #[.pointer (some ⟨g, 0, none⟩), .int .i64 (n : Int), .func (.func 72) #[] #[p1, p2]] w fun e w' => e = .returned (.int .i64 (actP s n done).2) ∧ IsD G w' g (actP s n done).1 ∧ Wr g w w' := by
  have H := Aside0.mk h
  have HOK := Aside0.mk hok
  have HDO := Aside0.mk hdo
  have HOK2 := Aside0.mk hok2
  have HKE := Aside0.mk hkeep
  have HKR := Aside0.mk hkr
  have HN := Aside0.mk hn
  obtain ⟨_, _, d, hA, hR⟩ := h
  have hc0 := hA.c0
  have hc1 := hA.c1
  rw [hR.1] at hc0
  rw [hR.2.1] at hc1
  have HB := Aside0.mk (burn_calls G g s n w H.out hok hn)
  have HML := Aside0.mk (show burnN s n ≤ n by
    unfold burnN
    split
    · rename_i c; have := hok.fuse c.1; omega
    · exact Nat.le_refl _)
  clear hA hR hok hdo hok2 hkeep hkr hn
  by_cases cs : s.set = true ∧ s.left ≤ (n : Int)
  · have HAP := Aside0.mk (show actP s n done = (fallP (done (burnS s n) (burnN s n)) s.keep, 50) by unfold actP; rw [if_pos (by unfold struckP; rw [cs.1, decide_eq_true cs.2]; rfl)])
    rw [HAP.out]
    rw [cs.1] at hc0
    have d1 : decide (s.left ≤ (n : Int)) = true := decide_eq_true cs.2
    clear cs
    go_enter Try.func64, Try.ntmps64
    go_wp2_with (fail)
    refine (HB.out).mono ?_
    rintro e w1 ⟨rfl, hI, hW⟩
    have HI := Aside0.mk hI
    have HW := Aside0.mk hW
    clear hI hW hc0 hc1
    go_wp2_with (fail)
    refine (HDO.out (burnS s n) (burnN s n) _ HI.out (by unfold burnS; split <;> rfl) HW.out HML.out).mono ?_
    rintro e w2 ⟨rfl, hI, hW⟩
    have HI2 := Aside0.mk hI
    have HW2 := Aside0.mk (HW.out.trans hW)
    clear hI hW HI HW
    obtain ⟨_, _, d2, hA2, hR2⟩ := HI2.out
    obtain ⟨A, c, hv, _, _⟩ := hR2.2.2.1.slice
    have hc2 := hA2.c2
    have HKV := Aside0.mk (hR2.2.2.1.one HI2.out.gg)
    rw [hv] at hc2 HKV
    rw [HKE.out] at hc2 HKV
    clear hA2 hR2 hv
    go_wp2_with (fail)
    refine (fall_calls G g _ _ s.keep _ HI2.out HOK2.out HKV.out HKR.out).mono ?_
    rintro e w3 ⟨rfl, hI, hW⟩
    have HI3 := Aside0.mk hI
    have HW3 := Aside0.mk (HW2.out.trans hW)
    clear hI hW hc2
    go_wp2
    go_ret
    exact ⟨rfl, HI3.out, HW3.out⟩
  · have HAP := Aside0.mk (show actP s n done = (done (burnS s n) (burnN s n), 0) by
      unfold actP
      rw [if_neg (by
        unfold struckP
        intro h
        rw [Bool.and_eq_true, decide_eq_true_eq] at h
        exact cs h)])
    rw [HAP.out]
    by_cases c1 : s.set = true
    case' pos =>
      rw [c1] at hc0
      have d1 : decide (s.left ≤ (n : Int)) = false := decide_eq_false (fun h => cs ⟨c1, h⟩)
    case' neg =>
      have c1' : s.set = false := by simpa using c1
      rw [c1'] at hc0
      clear c1'
    all_goals
      clear cs c1
      go_enter Try.func64, Try.ntmps64
      go_wp2_with (fail)
      refine (HB.out).mono ?_
      rintro e w1 ⟨rfl, hI, hW⟩
      have HI := Aside0.mk hI
      have HW := Aside0.mk hW
      clear hI hW hc0 hc1
      go_wp2_with (fail)
      refine (HDO.out (burnS s n) (burnN s n) _ HI.out (by unfold burnS; split <;> rfl) HW.out HML.out).mono ?_
      rintro e w2 ⟨rfl, hI, hW⟩
      have HI2 := Aside0.mk hI
      have HW2 := Aside0.mk (HW.out.trans hW)
      clear hI hW HI HW
      go_wp2
      go_ret
      exact ⟨rfl, HI2.out, HW2.out⟩
set_option maxHeartbeats 8000000 in
set_option maxRecDepth 100000 in
theorem act46_calls (G : Nat → Prop) (g : Nat) (s : DS) (n : Nat) (done : DS → Nat → DS) (p1 p2 p3 : Value) (w : World) (h : IsD G w g s) (hok : Ok s) (hn : n < 1000000000)
    (hdo : ∀ (s' : DS) (m : Nat) (w' : World), IsD G w' g s' → s'.fs = s.fs → Wr g w w' → m ≤ n → Calls Try.prog 65 #[.int .i64 (m : Int), p1, p2, p3] w' fun e w'' => e = .returned (.tuple #[]) ∧ IsD G w'' g (done s' m) ∧ Wr g w' w'')
    (hok2 : Ok (done (burnS s n) (burnN s n))) (hkeep : (done (burnS s n) (burnN s n)).keep = s.keep) (hkr : ∀ x ∈ s.keep, -9223372036854775808 ≤ x ∧ x ≤ 9223372036854775807) :
    Calls Try.prog 64 #[.pointer (some ⟨g, 0, none⟩), .int .i64 (n : Int), .func (.func 65) #[] #[p1, p2, p3]] w fun e w' => e = .returned (.int .i64 (actP s n done).2) ∧ IsD G w' g (actP s n done).1 ∧ Wr g w w' := by
  have H := Aside0.mk h
  have HOK := Aside0.mk hok
  have HDO := Aside0.mk hdo
  have HOK2 := Aside0.mk hok2
  have HKE := Aside0.mk hkeep
  have HKR := Aside0.mk hkr
  have HN := Aside0.mk hn
  obtain ⟨_, _, d, hA, hR⟩ := h
  have hc0 := hA.c0
  have hc1 := hA.c1
  rw [hR.1] at hc0
  rw [hR.2.1] at hc1
  have HB := Aside0.mk (burn_calls G g s n w H.out hok hn)
  have HML := Aside0.mk (show burnN s n ≤ n by
    unfold burnN
    split
    · rename_i c; have := hok.fuse c.1; omega
    · exact Nat.le_refl _)
  clear hA hR hok hdo hok2 hkeep hkr hn
  by_cases cs : s.set = true ∧ s.left ≤ (n : Int)
  · have HAP := Aside0.mk (show actP s n done = (fallP (done (burnS s n) (burnN s n)) s.keep, 50) by unfold actP; rw [if_pos (by unfold struckP; rw [cs.1, decide_eq_true cs.2]; rfl)])
    rw [HAP.out]
    rw [cs.1] at hc0
    have d1 : decide (s.left ≤ (n : Int)) = true := decide_eq_true cs.2
    clear cs
    go_enter Try.func64, Try.ntmps64
    go_wp2_with (fail)
    refine (HB.out).mono ?_
    rintro e w1 ⟨rfl, hI, hW⟩
    have HI := Aside0.mk hI
    have HW := Aside0.mk hW
    clear hI hW hc0 hc1
    go_wp2_with (fail)
    refine (HDO.out (burnS s n) (burnN s n) _ HI.out (by unfold burnS; split <;> rfl) HW.out HML.out).mono ?_
    rintro e w2 ⟨rfl, hI, hW⟩
    have HI2 := Aside0.mk hI
    have HW2 := Aside0.mk (HW.out.trans hW)
    clear hI hW HI HW
    obtain ⟨_, _, d2, hA2, hR2⟩ := HI2.out
    obtain ⟨A, c, hv, _, _⟩ := hR2.2.2.1.slice
    have hc2 := hA2.c2
    have HKV := Aside0.mk (hR2.2.2.1.one HI2.out.gg)
    rw [hv] at hc2 HKV
    rw [HKE.out] at hc2 HKV
    clear hA2 hR2 hv
    go_wp2_with (fail)
    refine (fall_calls G g _ _ s.keep _ HI2.out HOK2.out HKV.out HKR.out).mono ?_
    rintro e w3 ⟨rfl, hI, hW⟩
    have HI3 := Aside0.mk hI
    have HW3 := Aside0.mk (HW2.out.trans hW)
    clear hI hW hc2
    go_wp2
    go_ret
    exact ⟨rfl, HI3.out, HW3.out⟩
  · have HAP := Aside0.mk (show actP s n done = (done (burnS s n) (burnN s n), 0) by
      unfold actP
      rw [if_neg (by
        unfold struckP
        intro h
        rw [Bool.and_eq_true, decide_eq_true_eq] at h
        exact cs h)])
    rw [HAP.out]
    by_cases c1 : s.set = true
    case' pos =>
      rw [c1] at hc0
      have d1 : decide (s.left ≤ (n : Int)) = false := decide_eq_false (fun h => cs ⟨c1, h⟩)
    case' neg =>
      have c1' : s.set = false := by simpa using c1
      rw [c1'] at hc0
      clear c1'
    all_goals
      clear cs c1
      go_enter Try.func64, Try.ntmps64
      go_wp2_with (fail)
      refine (HB.out).mono ?_
      rintro e w1 ⟨rfl, hI, hW⟩
      have HI := Aside0.mk hI
      have HW := Aside0.mk hW
      clear hI hW hc0 hc1
      go_wp2_with (fail)
      refine (HDO.out (burnS s n) (burnN s n) _ HI.out (by unfold burnS; split <;> rfl) HW.out HML.out).mono ?_
      rintro e w2 ⟨rfl, hI, hW⟩
      have HI2 := Aside0.mk hI
      have HW2 := Aside0.mk (HW.out.trans hW)
      clear hI hW HI HW
      go_wp2
      go_ret
      exact ⟨rfl, HI2.out, HW2.out⟩
end Go.Proofs.Ytehjbhnlbjbhfaa.Dk
-- DkH
namespace Go.Proofs.Ytehjbhnlbjbhfaa.Dk
open Go Go.RowKit Go.Proofs.YtehjbhnlbjbhfaaW.PrintWords Go.Proofs.YtehjbhnlbjbhfaaW.PrintLast Go.Proofs.YtehjbhnlbjbhfaaW.PrintMore
open Go.Proofs.Ytehjbhnlbjbhfaa.PDiskBegins
set_option linter.unusedVariables false
set_option linter.unusedSimpArgs false
theorem with_w {P : World → Prop} (S : World → Prop) {W : World} (h : S W) (k : ∀ w', S w' → P w') : P W := k W h
set_option maxHeartbeats 8000000 in
set_option maxRecDepth 100000 in
theorem c46_calls (G : Nat → Prop) (g : Nat) (s : DS) (i n : Nat) (bs : List Int) (B : Option Addr) (cb : Nat) (b1 b2 b3 : Nat) (w : World) (h : IsD G w g s) (hi : i < 8) (hsl : (fl s i).seen.length ≤ 4194304) (h1 : w.cell? ⟨b1, 0, none⟩ = some (.pointer (some ⟨g, 0, none⟩))) (h2 : w.cell? ⟨b2, 0, none⟩ = some (.int .i64 (i : Int))) (h3 : w.cell? ⟨b3, 0, none⟩ = some (.slice B bs.length cb))
    (hB : (Kd.int .u8).C w B bs.length bs) (hcb : bs.length ≤ cb) (hn : n ≤ bs.length) (hbl : bs.length < 1000000000) :
    Calls Try.prog 65 #[.int .i64 (n : Int), .pointer (some ⟨b1, 0, none⟩), .pointer (some ⟨b2, 0, none⟩), .pointer (some ⟨b3, 0, none⟩)] w fun e w' => e = .returned (.tuple #[]) ∧ IsD G w' g (doneA i bs s n) ∧ Wr g w w' := by
  have H := Aside0.mk h
  obtain ⟨_, _, d, hA, hR⟩ := h
  have HA := Aside0.mk hA
  have HR := Aside0.mk hR
  obtain ⟨A, cc, hv, hvc, hC0⟩ := (hR.2.2.2.2.2.2 i hi).1.slice
  have HV := Aside0.mk hv
  have hs := hA.sv hi
  rw [hv] at hs
  have hfs := hA.frozen (3 + i * 3)
  have HGL := Aside0.mk hA.lt
  have HG3 := Aside0.mk (World.block_lt_of_cell? w _ h3)
  have HC0 := Aside0.mk hC0
  have HCC := Aside0.mk hvc
  have HSL := Aside0.mk (show (fl s i).seen.length < 140737488355328 by omega)
  obtain ⟨i0, hi0, _, hz1, _⟩ := info_parts info5
  have HCUT := cut_to (P := Try.prog) 32 5 .i64 Try.underlying32 hi0 B bs.length cb (n : Int) (by omega) (by omega) hcb
  rw [Int.toNat_natCast] at HCUT
  have hyl : (bs.take n).length = n := by rw [List.length_take]; exact Nat.min_eq_left hn
  have HCY := Aside0.mk (Kd.C_take (m := n) hB hn)
  have HY := Aside0.mk (show doneA i bs s n = setF s i ⟨(fl s i).seen ++ bs.take n, (fl s i).lasts, (fl s i).cl⟩ from rfl)
  rw [HY.out]
  have HLY := Aside0.mk (show ((fl s i).seen.length + (bs.take n).length) * 1 ≤ 140737488355328 by omega)
  generalize hy : bs.take n = y at HCY HY HLY hyl
  rw [← hyl] at HCUT
  subst hyl
  clear hA hR hv hvc hC0 hB hcb hn hbl hi0 hz1 hsl
  go_enter Try.func65, Try.ntmps65
  go_wp2
  go_quiet (fail)
  go_wp2
  refine with_w (fun w' => At w' g d ∧ Rows G w' d s ∧ Wr g w w' ∧ w'.cell? ⟨b3, 0, none⟩ = some (.slice B bs.length cb) ∧ (Kd.int .u8).C w' A (fl s i).seen.length (fl s i).seen ∧ (Kd.int .u8).C w' B y.length y) ⟨HA.out, HR.out.wr ((Wr.refl g w).drew1 nq) H.out.gg, (Wr.refl g w).drew1 nq, h3, Kd.C_drewN HC0.out nq, Kd.C_drewN HCY.out nq⟩ ?_
  clear hs hfs h1 h2 h3 HC0 HCY HA HR HGL HG3
  rintro wr ⟨hA, hR, hW, hbx, hC0, hCY⟩
  have HA := Aside0.mk hA
  have HR := Aside0.mk hR
  have HW := Aside0.mk hW
  have HC0 := Aside0.mk hC0
  have HCY := Aside0.mk hCY
  have hs := hA.sv hi
  obtain ⟨A', cc', hv, _, _⟩ := (hR.2.2.2.2.2.2 i hi).1.slice
  rw [HV.out] at hs
  have hfs := hA.frozen (3 + i * 3)
  have HGL := Aside0.mk hA.lt
  have HG3 := Aside0.mk (World.block_lt_of_cell? wr _ hbx)
  have HBB := Aside0.mk (Below.refl wr.drew.heap.size wr.drew)
  clear hA hR hW hC0 hCY hv
  refine start_ (n := 13) (S := fun w' => w'.cell? ⟨g, 3 + i * 3, none⟩ = some (.slice A (fl s i).seen.length cc) ∧ w'.frozen? ⟨g, 3 + i * 3, none⟩ = false ∧ w'.cell? ⟨b3, 0, none⟩ = some (.slice B bs.length cb)) (ds := [12]) #[false, false, false, false, false, false, false, false, false, false, false, false, false] (by kernel_rfl) rfl rfl ⟨hs, hfs, hbx⟩ (fun hHeld => ?_)
  refine pure_ (i := 0) (N := some 11) (v := ?_) (a' := ?_) #[true, false, false, false, false, false, false, false, false, false, false, false, false] rfl rfl (by kernel_rfl) (fun _ _ _ h => h) (Or.inl ⟨by rfl, ?_⟩) ?_ ?_
  rotate_left
  · intro w'
    go_simp
    with_reducible rfl
  rotate_left
  · simp only [Act.put, List.setIfInBounds_toArray, List.set_cons_zero, List.set_cons_succ, i64_w, i32_w]
    rfl
  refine pure_ (i := 1) (N := some 12) (v := ?_) (a' := ?_) #[true, true, false, false, false, false, false, false, false, false, false, false, false] rfl rfl (by kernel_rfl) (fun _ _ _ h => h) (Or.inl ⟨by rfl, ?_⟩) ?_ ?_
  rotate_left
  · intro w'
    go_simp
    with_reducible rfl
  rotate_left
  · simp only [Act.put, List.setIfInBounds_toArray, List.set_cons_zero, List.set_cons_succ, i64_w, i32_w]
    rfl
  refine pure_ (i := 2) (N := some 13) (v := ?_) (a' := ?_) #[true, true, true, false, false, false, false, false, false, false, false, false, false] rfl rfl (by kernel_rfl) (fun _ _ _ h => h) (Or.inl ⟨by rfl, ?_⟩) ?_ ?_
  rotate_left
  · intro w'
    go_simp
    with_reducible rfl
  rotate_left
  · simp only [Act.put, List.setIfInBounds_toArray, List.set_cons_zero, List.set_cons_succ, i64_w, i32_w]
    rfl
  refine pure_ (i := 3) (N := some 14) (v := ?_) (a' := ?_) #[true, true, true, true, false, false, false, false, false, false, false, false, false] rfl rfl (by kernel_rfl) (fun _ _ _ h => h) (Or.inl ⟨by rfl, ?_⟩) ?_ ?_
  rotate_left
  · intro w'
    go_simp
    with_reducible rfl
  rotate_left
  · simp only [Act.put, List.setIfInBounds_toArray, List.set_cons_zero, List.set_cons_succ, i64_w, i32_w]
    rfl
  refine pure_ (i := 7) (N := some 18) (v := ?_) (a' := ?_) #[true, true, true, true, false, false, false, true, false, false, false, false, false] rfl rfl (by kernel_rfl) (fun _ _ _ h => h) (Or.inl ⟨by rfl, ?_⟩) ?_ ?_
  rotate_left
  · intro w'
    go_simp
    with_reducible rfl
  rotate_left
  · simp only [Act.put, List.setIfInBounds_toArray, List.set_cons_zero, List.set_cons_succ, i64_w, i32_w]
    rfl
  refine take_ (i := 4) (N := some 15) (v := ?_) (a' := ?_) #[true, true, true, true, true, false, false, true, false, false, false, false, false] rfl rfl (by kernel_rfl) (fun _ _ _ h => h) (Or.inl ⟨by rfl, ?_⟩) hHeld ?_ ?_
  rotate_left
  · rintro w' ⟨s0, s1, s2⟩
    go_simp
    with_reducible rfl
  rotate_left
  · simp only [Act.put, List.setIfInBounds_toArray, List.set_cons_zero, List.set_cons_succ, i64_w, i32_w]
    rfl
  refine take_ (i := 6) (N := some 17) (v := ?_) (a' := ?_) #[true, true, true, true, true, false, true, true, false, false, false, false, false] rfl rfl (by kernel_rfl) (fun _ _ _ h => h) (Or.inl ⟨by rfl, ?_⟩) hHeld ?_ ?_
  rotate_left
  · rintro w' ⟨s0, s1, s2⟩
    go_simp
    with_reducible rfl
  rotate_left
  · simp only [Act.put, List.setIfInBounds_toArray, List.set_cons_zero, List.set_cons_succ, i64_w, i32_w]
    rfl
  refine pure_ (i := 8) (N := some 19) (v := ?_) (a' := ?_) #[true, true, true, true, true, false, true, true, true, false, false, false, false] rfl rfl (by kernel_rfl) (fun _ _ _ h => h) (Or.inl ⟨by rfl, ?_⟩) ?_ ?_
  rotate_left
  · intro w'
    go_simp
    with_reducible rfl
  rotate_left
  · simp only [Act.put, List.setIfInBounds_toArray, List.set_cons_zero, List.set_cons_succ, i64_w, i32_w]
    rfl
  refine one_ (i := 5) (N := some 16) #[true, true, true, true, true, true, true, true, true, false, false, false, false] rfl rfl (by kernel_rfl) (by decide) (fun K hK => ?_)
  refine goes_ Try.func14 (by kernel_rfl) rfl #[.slice A (fl s i).seen.length cc] (by rfl) rfl rfl (by first | rfl | (simp; done) | (simp only [List.map_toArray, List.map_cons, List.map_nil]; rfl)) ?_
  with_reducible refine (Clone_b A cc (fl s i).seen _ (by repeat (first | exact HC0.out | (with_reducible refine Kd.C_drew ?_) | (with_reducible refine Kd.C_drewN ?_ _))) HCC.out HSL.out).mono ?_
  rintro e w3 ⟨v, rfl, hR, hb⟩
  refine ⟨_, rfl, ?_⟩
  obtain ⟨A3, c3, e3⟩ := Kd.R_slice hR
  subst e3
  have n0_ := Aside0.mk (below_step (by repeat (first | (with_reducible first | exact HBB.out | apply below_alloc | apply pw_below_drewN | apply below_drew1) | exact HBB.out)) hb)
  have HOa := Aside0.mk hR
  clear HBB
  have HBB := n0_
  clear n0_
  clear hR
  refine hK.out _ _ ⟨(hb.cell (p := ⟨g, 3 + i * 3, none⟩) HGL.out).trans hHeld.1, (hb.frozen (p := ⟨g, 3 + i * 3, none⟩) HGL.out).trans hHeld.2.1, (hb.cell (p := ⟨b3, 0, none⟩) HG3.out).trans hHeld.2.2⟩ (fun hHeld => ?_)
  clear hK K
  refine norm_ (a' := ?_) ?_ ?_
  rotate_left
  · show Act.put _ (some 16) _ = _
    simp only [Act.put, List.setIfInBounds_toArray, List.set_cons_zero, List.set_cons_succ, i64_w, i32_w]
    rfl
  refine one_ (i := 9) (N := some 20) #[true, true, true, true, true, true, true, true, true, true, false, false, false] rfl rfl (by kernel_rfl) (by decide) (fun K hK => ?_)
  refine Kd.R_append_rows_step (Kd.int .u8) (w0 := wr.drew) wr.drew.heap.size (by rfl) (.tmp 16) (.tmp 19) 32 5 (.int .u8 0) 1 (by rfl) Try.underlying32 info5 rfl (by decide) (by omega) (.slice A3 (fl s i).seen.length c3) (fl s i).seen y _ _ _ (fun _ => True) (fun _ => False) (by rfl) (by rfl) ?aO ?aR (fun _ _ h => h) (fun _ h => h.elim) ?aF ?aB ?aS ?aL ?_
  case aR => exact Kd.C_below HCY.out (below_step (below_drew1 (Below.refl wr.heap.size wr)) HBB.out)
  case aB => exact (by repeat (first | (with_reducible first | exact HBB.out | apply below_alloc | apply pw_below_drewN | apply below_drew1) | exact HBB.out))
  case aF => exact fun _ _ => trivial
  case aO => exact (by (with_reducible repeat (first | apply Kd.R_alloc | apply Kd.R_drewN | apply Kd.R_drew)); exact HOa.out)
  case aS => exact (below_size (by repeat (first | (with_reducible first | exact HBB.out | apply below_alloc | apply pw_below_drewN | apply below_drew1) | exact HBB.out)))
  case aL => exact HLY.out
  intro vb w6 ho hb hg hat
  have n0_ := Aside0.mk hb
  have n1_ := Aside0.mk ho
  have hfr := (hb.frozen (p := ⟨g, 3 + i * 3, none⟩) HGL.out).trans hfs
  have hc3 := (hb.cell (p := ⟨b3, 0, none⟩) HG3.out).trans hbx
  clear HBB HOa
  have HBB := n0_
  have HOa := n1_
  clear n0_ n1_
  obtain ⟨A7, c7, e7⟩ := Kd.R_slice HOa.out
  subst e7
  refine hK.out _ _ ⟨(hb.cell (p := ⟨g, 3 + i * 3, none⟩) HGL.out).trans hs, hfr, hc3⟩ (fun hHeld => ?_)
  clear hK K
  refine norm_ (a' := ?_) ?_ ?_
  rotate_left
  · show Act.put _ (some 20) _ = _
    simp only [Act.put, List.setIfInBounds_toArray, List.set_cons_zero, List.set_cons_succ, i64_w, i32_w]
    rfl
  refine pure_ (i := 10) (N := some 21) (v := ?_) (a' := ?_) #[true, true, true, true, true, true, true, true, true, true, true, false, false] rfl rfl (by kernel_rfl) (fun _ _ _ h => h) (Or.inl ⟨by rfl, ?_⟩) ?_ ?_
  rotate_left
  · intro w'
    go_simp
    with_reducible rfl
  rotate_left
  · simp only [Act.put, List.setIfInBounds_toArray, List.set_cons_zero, List.set_cons_succ, i64_w, i32_w]
    rfl
  refine pure_ (i := 11) (N := some 22) (v := ?_) (a' := ?_) #[true, true, true, true, true, true, true, true, true, true, true, true, false] rfl rfl (by kernel_rfl) (fun _ _ _ h => h) (Or.inl ⟨by rfl, ?_⟩) ?_ ?_
  rotate_left
  · intro w'
    go_simp
    with_reducible rfl
  rotate_left
  · simp only [Act.put, List.setIfInBounds_toArray, List.set_cons_zero, List.set_cons_succ, i64_w, i32_w]
    rfl
  refine last_ (i := 12) (N := none) #[true, true, true, true, true, true, true, true, true, true, true, true, true] rfl rfl (by kernel_rfl) (by decide) (fun K hK => ?_)
  obtain ⟨hx0, hx1, hx2⟩ := hHeld
  refine skip_ (w1 := ?_) (by rfl) rfl ?_ ?_
  rotate_left
  · go_simp
    rfl
  refine hK.out _ _ ?_
  clear hK K
  refine done_ (by kernel_rfl) ?_
  have HB3 := Aside0.mk (below_step (below_drew1 (Below.refl wr.heap.size wr)) HBB.out)
  clear hs hfs hbx
  go_wp2
  first | go_end0 | ((try simp only [Exit.inBlock, Exit.then]); refine bodyPost_ret (results_none rfl _ _ _) rfl ?_)
  rw [← List.length_append]
  have hw6 : Wr g wr w6 := Wr.of_below HB3.out
  have hA6 := HA.out.same (HB3.out.block g HGL.out)
  have hRw := Rw.of_R HOa.out (G := G) (fun b hb => Nat.lt_of_lt_of_le (H.out.lt b hb) HW.out.size)
  have hw := hw6.set (3 + i * 3) (.slice A7 ((fl s i).seen ++ y).length c7)
  have hw63 := (Wr.refl g w6).set (3 + i * 3) (.slice A7 ((fl s i).seen ++ y).length c7)
  have hI : IsD G wr g s := ⟨fun b hb => Nat.lt_of_lt_of_le (H.out.lt b hb) HW.out.size, H.out.gg, d, HA.out, HR.out⟩
  refine ⟨rfl, hI.file HA.out.1 HR.out hi (hA6.setS hi _) hw ⟨hRw.wr hw63 H.out.gg, (HR.out.2.2.2.2.2.2 i hi).2.1.wr hw H.out.gg, (HR.out.2.2.2.2.2.2 i hi).2.2⟩, HW.out.trans hw⟩
end Go.Proofs.Ytehjbhnlbjbhfaa.Dk
-- DkI
namespace Go.Proofs.Ytehjbhnlbjbhfaa.Dk
open Go Go.RowKit Go.Proofs.YtehjbhnlbjbhfaaW.PrintWords Go.Proofs.YtehjbhnlbjbhfaaW.PrintLast Go.Proofs.YtehjbhnlbjbhfaaW.PrintMore
open Go.Proofs.Ytehjbhnlbjbhfaa.PDiskBegins
set_option linter.unusedVariables false
set_option linter.unusedSimpArgs false
theorem IsD.dr {G : Nat → Prop} {g : Nat} {W : World} {s : DS} (h : IsD G W g s) : IsD G W.drew g s := h.below (below_drew1 (Below.refl _ _))
theorem IsD.drN {G : Nat → Prop} {g : Nat} {W : World} {s : DS} (h : IsD G W g s) (n : Nat) : IsD G (W.drewN n) g s := h.below (pw_below_drewN (Below.refl _ _) n)
theorem IsD.al {G : Nat → Prop} {g : Nat} {W : World} {s : DS} (h : IsD G W g s) (o : Obj) : IsD G (W.alloc o) g s := h.below (below_alloc (Below.refl _ _) o)
theorem IsD.ltg {G : Nat → Prop} {g : Nat} {W : World} {s : DS} (h : IsD G W g s) : g < W.heap.size := h.lt g h.gg
theorem Wr.cell {g : Nat} {w w' : World} (h : Wr g w w') {b o : Nat} {v : Value} (hc : w.cell? ⟨b, o, none⟩ = some v) (hne : b ≠ g) : w'.cell? ⟨b, o, none⟩ = some v := by
  have hb := h.block b (World.block_lt_of_cell? w _ hc) hne
  simpa [World.cell?, hb] using hc
set_option maxHeartbeats 8000000 in
set_option maxRecDepth 100000 in
theorem Clear_calls (G : Nat → Prop) (g : Nat) (s : DS) (i : Int) (w : World) (h : IsD G w g s) (hok : Okk s) : Calls Try.prog 55 #[.pointer (some ⟨g, 0, none⟩), .int .i64 i] w fun e w' => e = .returned (.int .i64 (clearP s i).2) ∧ IsD G w' g (clearP s i).1 ∧ Wr g w w' := by
  have H := Aside0.mk h
  have HOK := Aside0.mk hok
  have HG := Aside0.mk h.ltg
  have H2 := Aside0.mk ((h.al (.cells #[.pointer (some ⟨g, 0, none⟩)] 23)).al (.cells #[.int .i64 i] 3))
  have HAB := Aside0.mk (able_calls G g s i _ H2.out)
  have HW2 := Aside0.mk (Wr.of_below (g := g) (below_alloc (below_alloc (Below.refl w.heap.size w) (.cells #[.pointer (some ⟨g, 0, none⟩)] 23)) (.cells #[.int .i64 i] 3)))
  rcases able_cases s i with c | ⟨c, j, hj, rfl, _, _⟩
  · have HR := Aside0.mk (show clearP s i = (s, ableP s i) by unfold clearP; rw [if_pos c])
    have c1 : (ableP s i != (0 : Int)) = true := by simpa using c
    have c2 : (ableP s i == (0 : Int)) = false := by simpa using c
    rw [HR.out]
    clear h c HR hok
    generalize ableP s i = er at *
    go_enter Try.func55, Try.ntmps55
    go_wp2_with (fail)
    refine (HAB.out).mono ?_
    rintro e w1 ⟨rfl, ⟨nd, rfl⟩⟩
    go_wp2
    go_ret
    exact ⟨rfl, H2.out.drN nd, HW2.out.drew1 nd⟩
  · have HR := Aside0.mk (show clearP s (j : Int) = actP s 1 (doneC j) by unfold clearP; rw [if_neg (by rw [c]; decide), Int.toNat_natCast])
    rw [c] at HAB
    rw [HR.out]
    have HJ := Aside0.mk hj
    have hb1 : ((w.alloc (.cells #[.pointer (some ⟨g, 0, none⟩)] 23)).alloc (.cells #[.int .i64 (j : Int)] 3)).cell? ⟨w.heap.size, 0, none⟩ = some (.pointer (some ⟨g, 0, none⟩)) := (blk_cell (blk_alloc (blk_new w _) _) 0).trans rfl
    have hb2 : ((w.alloc (.cells #[.pointer (some ⟨g, 0, none⟩)] 23)).alloc (.cells #[.int .i64 (j : Int)] 3)).cell? ⟨w.heap.size + 1, 0, none⟩ = some (.int .i64 (j : Int)) := by
      have := blk_new (w.alloc (.cells #[.pointer (some ⟨g, 0, none⟩)] 23)) (.cells #[.int .i64 (j : Int)] 3)
      rw [show (w.alloc (.cells #[.pointer (some ⟨g, 0, none⟩)] 23)).heap.size = w.heap.size + 1 by simp] at this
      exact (blk_cell this 0).trans rfl
    have HB1 := Aside0.mk hb1
    have HB2 := Aside0.mk hb2
    clear h c HR hok hb1 hb2 hj
    go_enter Try.func55, Try.ntmps55
    go_wp2_with (fail)
    refine (HAB.out).mono ?_
    rintro e w1 ⟨rfl, ⟨nd, rfl⟩⟩
    go_wp2_with (fail)
    refine (act47_calls G g s 1 (doneC j) (.pointer (some ⟨w.heap.size, 0, none⟩)) (.pointer (some ⟨w.heap.size + 1, 0, none⟩)) _ (H2.out.drN nd) HOK.out.1 (by decide) (fun s' m w' hI hfs hW hm => c47_calls G g s' j m w.heap.size (w.heap.size + 1) w' hI HJ.out (hW.cell (b := w.heap.size) HB1.out (by have := HG.out; omega)) (hW.cell (b := w.heap.size + 1) HB2.out (by have := HG.out; omega)) (by have := HG.out; omega) (by have := HG.out; omega)) ((HOK.out.1.burn 1).doneC HJ.out _) (keepC j s 1 _) HOK.out.2).mono ?_
    rintro e w2 ⟨rfl, hI, hW⟩
    have HI := Aside0.mk hI
    have HWF := Aside0.mk ((HW2.out.drew1 nd).trans hW)
    clear hI hW
    go_wp2
    go_ret
    exact ⟨rfl, HI.out, HWF.out⟩
set_option maxHeartbeats 8000000 in
set_option maxRecDepth 100000 in
theorem Sync_calls (G : Nat → Prop) (g : Nat) (s : DS) (i : Int) (w : World) (h : IsD G w g s) (hok : Okk s) : Calls Try.prog 54 #[.pointer (some ⟨g, 0, none⟩), .int .i64 i] w fun e w' => e = .returned (.int .i64 (syncP s i).2) ∧ IsD G w' g (syncP s i).1 ∧ Wr g w w' := by
  have H := Aside0.mk h
  have HOK := Aside0.mk hok
  have HG := Aside0.mk h.ltg
  have H2 := Aside0.mk ((h.al (.cells #[.pointer (some ⟨g, 0, none⟩)] 23)).al (.cells #[.int .i64 i] 3))
  have HAB := Aside0.mk (able_calls G g s i _ H2.out)
  have HW2 := Aside0.mk (Wr.of_below (g := g) (below_alloc (below_alloc (Below.refl w.heap.size w) (.cells #[.pointer (some ⟨g, 0, none⟩)] 23)) (.cells #[.int .i64 i] 3)))
  rcases able_cases s i with c | ⟨c, j, hj, rfl, _, _⟩
  · have HR := Aside0.mk (show syncP s i = (s, ableP s i) by unfold syncP; rw [if_pos c])
    have c1 : (ableP s i != (0 : Int)) = true := by simpa using c
    have c2 : (ableP s i == (0 : Int)) = false := by simpa using c
    rw [HR.out]
    clear h c HR hok
    generalize ableP s i = er at *
    go_enter Try.func54, Try.ntmps54
    go_wp2_with (fail)
    refine (HAB.out).mono ?_
    rintro e w1 ⟨rfl, ⟨nd, rfl⟩⟩
    go_wp2
    go_ret
    exact ⟨rfl, H2.out.drN nd, HW2.out.drew1 nd⟩
  · have HR := Aside0.mk (show syncP s (j : Int) = actP s 1 (doneY j) by unfold syncP; rw [if_neg (by rw [c]; decide), Int.toNat_natCast])
    rw [c] at HAB
    rw [HR.out]
    have HJ := Aside0.mk hj
    have hb1 : ((w.alloc (.cells #[.pointer (some ⟨g, 0, none⟩)] 23)).alloc (.cells #[.int .i64 (j : Int)] 3)).cell? ⟨w.heap.size, 0, none⟩ = some (.pointer (some ⟨g, 0, none⟩)) := (blk_cell (blk_alloc (blk_new w _) _) 0).trans rfl
    have hb2 : ((w.alloc (.cells #[.pointer (some ⟨g, 0, none⟩)] 23)).alloc (.cells #[.int .i64 (j : Int)] 3)).cell? ⟨w.heap.size + 1, 0, none⟩ = some (.int .i64 (j : Int)) := by
      have := blk_new (w.alloc (.cells #[.pointer (some ⟨g, 0, none⟩)] 23)) (.cells #[.int .i64 (j : Int)] 3)
      rw [show (w.alloc (.cells #[.pointer (some ⟨g, 0, none⟩)] 23)).heap.size = w.heap.size + 1 by simp] at this
      exact (blk_cell this 0).trans rfl
    have HB1 := Aside0.mk hb1
    have HB2 := Aside0.mk hb2
    clear h c HR hok hb1 hb2 hj
    go_enter Try.func54, Try.ntmps54
    go_wp2_with (fail)
    refine (HAB.out).mono ?_
    rintro e w1 ⟨rfl, ⟨nd, rfl⟩⟩
    go_wp2_with (fail)
    refine (act44_calls G g s 1 (doneY j) (.pointer (some ⟨w.heap.size, 0, none⟩)) (.pointer (some ⟨w.heap.size + 1, 0, none⟩)) _ (H2.out.drN nd) HOK.out.1 (by decide) (fun s' m w' hI hfs hW hm => c44_calls G g s' j m w.heap.size (w.heap.size + 1) w' hI HJ.out (hW.cell (b := w.heap.size) HB1.out (by have := HG.out; omega)) (hW.cell (b := w.heap.size + 1) HB2.out (by have := HG.out; omega)) (by have := HG.out; omega) (by have := HG.out; omega)) ((HOK.out.1.burn 1).doneY HJ.out _) (keepY j s 1 _) HOK.out.2).mono ?_
    rintro e w2 ⟨rfl, hI, hW⟩
    have HI := Aside0.mk hI
    have HWF := Aside0.mk ((HW2.out.drew1 nd).trans hW)
    clear hI hW
    go_wp2
    go_ret
    exact ⟨rfl, HI.out, HWF.out⟩
set_option maxHeartbeats 8000000 in
set_option maxRecDepth 100000 in
theorem Crash_calls (G : Nat → Prop) (g : Nat) (s : DS) (kV : Value) (keep : List Int) (w : World) (h : IsD G w g s) (hok : Okk s) (hk : Rw (fun b => b = g) .i64 w kV keep) (hkr : I64 keep) : Calls Try.prog 47 #[.pointer (some ⟨g, 0, none⟩), kV] w fun e w' => e = .returned (.int .i64 (crashP s keep).2) ∧ IsD G w' g (crashP s keep).1 ∧ Wr g w w' := by
  have H := Aside0.mk h
  have HOK := Aside0.mk hok
  have HK := Aside0.mk hk
  have HKR := Aside0.mk hkr
  have HAB := Aside0.mk (able_calls G g s 0 w h)
  obtain ⟨A, cc, rfl, _, _⟩ := hk.slice
  by_cases c : ableP s 0 ≠ 0
  · have HR := Aside0.mk (show crashP s keep = (s, ableP s 0) by unfold crashP; rw [if_pos c])
    have c1 : (ableP s 0 != (0 : Int)) = true := by simpa using c
    have c2 : (ableP s 0 == (0 : Int)) = false := by simpa using c
    rw [HR.out]
    clear h c HR hok hk hkr
    generalize ableP s 0 = er at *
    go_enter Try.func47, Try.ntmps47
    go_wp2_with (fail)
    refine (HAB.out).mono ?_
    rintro e w1 ⟨rfl, ⟨nd, rfl⟩⟩
    go_wp2
    go_ret
    exact ⟨rfl, H.out.drN nd, (Wr.refl g w).drew1 nd⟩
  · have HR := Aside0.mk (show crashP s keep = (fallP s keep, 0) by unfold crashP; rw [if_neg c])
    rw [Decidable.not_not.1 c] at HAB
    rw [HR.out]
    clear h c HR hok hk hkr
    go_enter Try.func47, Try.ntmps47
    go_wp2_with (fail)
    refine (HAB.out).mono ?_
    rintro e w1 ⟨rfl, ⟨nd, rfl⟩⟩
    go_wp2_with (fail)
    refine (fall_calls G g s _ keep _ (H.out.drN nd) HOK.out.1 (HK.out.below (pw_below_drewN (Below.refl _ _) nd)) HKR.out).mono ?_
    rintro e w2 ⟨rfl, hI, hW⟩
    have HI := Aside0.mk hI
    have HWF := Aside0.mk (((Wr.refl g w).drew1 nd).trans hW)
    clear hI hW
    go_wp2
    go_ret
    exact ⟨rfl, HI.out, HWF.out⟩
set_option maxHeartbeats 8000000 in
set_option maxRecDepth 100000 in
theorem Arm_calls (G : Nat → Prop) (g : Nat) (s : DS) (n : Int) (kV : Value) (keep : List Int) (w : World) (h : IsD G w g s) (hok : Okk s) (hk : Rw (fun b => b = g) .i64 w kV keep) (hkl : keep.length < 1000000000) : Calls Try.prog 42 #[.pointer (some ⟨g, 0, none⟩), .int .i64 n, kV] w fun e w' => e = .returned (.int .i64 (armP s n keep).2) ∧ IsD G w' g (armP s n keep).1 ∧ Wr g w w' := by
  have H := Aside0.mk h
  have HOK := Aside0.mk hok
  have HK := Aside0.mk hk
  have HAB := Aside0.mk (able_calls G g s 0 w h)
  obtain ⟨A, cc, rfl, hcc, hC⟩ := hk.slice
  have HC := Aside0.mk (And.intro hcc hC)
  have HKL := Aside0.mk (show keep.length < 17592186044416 by omega)
  by_cases c : ableP s 0 ≠ 0
  · have HR := Aside0.mk (show armP s n keep = (s, ableP s 0) by unfold armP; rw [if_pos c])
    have c1 : (ableP s 0 != (0 : Int)) = true := by simpa using c
    have c2 : (ableP s 0 == (0 : Int)) = false := by simpa using c
    rw [HR.out]
    clear h c HR hok hk hkl hcc hC
    generalize ableP s 0 = er at *
    go_enter Try.func42, Try.ntmps42
    go_wp2_with (fail)
    refine (HAB.out).mono ?_
    rintro e w1 ⟨rfl, ⟨nd, rfl⟩⟩
    go_wp2
    go_ret
    exact ⟨rfl, H.out.drN nd, (Wr.refl g w).drew1 nd⟩
  · rw [Decidable.not_not.1 c] at HAB
    by_cases c1 : n < 1
    · have HR := Aside0.mk (show armP s n keep = (s, 1) by unfold armP; rw [if_neg c, if_pos c1])
      rw [HR.out]
      have d1 : decide (n < 1) = true := decide_eq_true c1
      clear h c HR hok hk hkl hcc hC
      go_enter Try.func42, Try.ntmps42
      go_wp2_with (fail)
      refine (HAB.out).mono ?_
      rintro e w1 ⟨rfl, ⟨nd, rfl⟩⟩
      go_wp2
      go_ret
      exact ⟨rfl, H.out.drN nd, (Wr.refl g w).drew1 nd⟩
    · have HR := Aside0.mk (show armP s n keep = ({ s with set := true, left := n, keep := keep }, 0) by unfold armP; rw [if_neg c, if_neg c1])
      rw [HR.out]
      have d1 : decide (n < 1) = false := decide_eq_false c1
      clear h c HR hok hk hkl hcc hC c1
      go_enter Try.func42, Try.ntmps42
      go_wp2_with (fail)
      refine (HAB.out).mono ?_
      rintro e w1 ⟨rfl, ⟨nd, rfl⟩⟩
      go_wp2_with (fail)
      refine (Clone_i A cc keep _ (Kd.C_drewN HC.out.2 nd) HC.out.1 HKL.out).mono ?_
      rintro e w2 ⟨v, rfl, hR2, hB2⟩
      obtain ⟨A2, c2, rfl⟩ := Kd.R_slice hR2
      have H2 := Aside0.mk ((H.out.drN nd).below hB2)
      have HW2 := Aside0.mk (((Wr.refl g w).drew1 nd).trans (Wr.of_below hB2))
      have HRW := Aside0.mk (Rw.of_R hR2 (G := G) (fun b hb => (H.out.drN nd).lt b hb))
      clear hR2 hB2
      obtain ⟨_, _, d, hA, hR⟩ := H2.out
      have hc0 := hA.c0
      have hc1 := hA.c1
      have hc2 := hA.c2
      have hf0 := hA.frozen 0
      have hf1 := hA.frozen 1
      have hf2 := hA.frozen 2
      obtain ⟨A3, c3, hv, _, _⟩ := hR.2.2.1.slice
      rw [hv] at hc2
      have HA := Aside0.mk hA
      have HR := Aside0.mk hR
      clear hA hR hv
      go_wp2
      go_ret
      have hw := (((Wr.refl g w2).set 0 (.bool true)).set 1 (.int .i64 n)).set 2 (.slice A2 keep.length c2)
      have hr := HR.out.wr hw H2.out.gg
      refine ⟨rfl, ⟨fun b hb => Nat.lt_of_lt_of_le (H2.out.lt b hb) hw.size, H2.out.gg, _, ((HA.out.set0 true).set1 n).set2 _, rfl, rfl, HRW.out.wr hw H2.out.gg, hr.2.2.2.1, hr.2.2.2.2.1, hr.2.2.2.2.2.1, hr.2.2.2.2.2.2⟩, HW2.out.trans hw⟩
end Go.Proofs.Ytehjbhnlbjbhfaa.Dk
-- DkJ
namespace Go.Proofs.Ytehjbhnlbjbhfaa.Dk
open Go Go.RowKit Go.Proofs.YtehjbhnlbjbhfaaW.PrintWords Go.Proofs.YtehjbhnlbjbhfaaW.PrintLast Go.Proofs.YtehjbhnlbjbhfaaW.PrintMore
open Go.Proofs.Ytehjbhnlbjbhfaa.PDiskBegins
set_option linter.unusedVariables false
set_option linter.unusedSimpArgs false
abbrev B1 (w : World) (g : Nat) : World := w.alloc (.cells #[.pointer (some ⟨g, 0, none⟩)] 23)
abbrev B2 (w : World) (g : Nat) (i : Int) : World := (B1 w g).alloc (.cells #[.int .i64 i] 3)
abbrev B3 (w : World) (g : Nat) (i : Int) (v : Value) : World := (B2 w g i).alloc (.cells #[v] 32)
theorem box_cells (w : World) (g : Nat) (i : Int) (v : Value) : (B3 w g i v).cell? ⟨w.heap.size, 0, none⟩ = some (.pointer (some ⟨g, 0, none⟩)) ∧ (B3 w g i v).cell? ⟨w.heap.size + 1, 0, none⟩ = some (.int .i64 i) ∧ (B3 w g i v).cell? ⟨w.heap.size + 2, 0, none⟩ = some v ∧ (B3 w g i v).heap.size = w.heap.size + 3 := by
  have e1 : (B1 w g).heap.size = w.heap.size + 1 := by simp [B1]
  have e2 : (B2 w g i).heap.size = w.heap.size + 2 := by simp [B2, B1]
  have h2 := blk_new (B1 w g) (.cells #[.int .i64 i] 3)
  have h3 := blk_new (B2 w g i) (.cells #[v] 32)
  rw [e1] at h2
  rw [e2] at h3
  exact ⟨(blk_cell (blk_alloc (blk_alloc (blk_new w _) _) _) 0).trans rfl, (blk_cell (blk_alloc h2 _) 0).trans rfl, (blk_cell h3 0).trans rfl, by simp [B3, B2, B1]⟩
set_option maxHeartbeats 8000000 in
set_option maxRecDepth 100000 in
theorem Append_calls (G : Nat → Prop) (g : Nat) (s : DS) (i : Int) (bV : Value) (bs : List Int) (w : World) (h : IsD G w g s) (hok : Okk s) (hbv : Rw (fun b => b = g) .u8 w bV bs) (hbl : bs.length < 1000000000) : Calls Try.prog 32 #[.pointer (some ⟨g, 0, none⟩), .int .i64 i, bV] w fun e w' => e = .returned (.int .i64 (appendP s i bs).2) ∧ IsD G w' g (appendP s i bs).1 ∧ Wr g w w' := by
  have H := Aside0.mk h
  have HOK := Aside0.mk hok
  have HOK1 := Aside0.mk hok.1
  have HG := Aside0.mk h.ltg
  have HBV := Aside0.mk hbv
  have HBL := Aside0.mk hbl
  obtain ⟨B, cb, rfl, hcb, _⟩ := hbv.slice
  have HCB := Aside0.mk hcb
  have H2 := Aside0.mk (((h.al (.cells #[.pointer (some ⟨g, 0, none⟩)] 23)).al (.cells #[.int .i64 i] 3)).al (.cells #[.slice B bs.length cb] 32))
  have HAB := Aside0.mk (able_calls G g s i _ H2.out)
  have HW2 := Aside0.mk (Wr.of_below (g := g) (below_alloc (below_alloc (below_alloc (Below.refl w.heap.size w) (.cells #[.pointer (some ⟨g, 0, none⟩)] 23)) (.cells #[.int .i64 i] 3)) (.cells #[.slice B bs.length cb] 32)))
  rcases able_cases s i with c | ⟨c, j, hj, rfl, _, _⟩
  · have HR := Aside0.mk (show appendP s i bs = (s, ableP s i) by unfold appendP; rw [if_pos c])
    have c1 : (ableP s i != (0 : Int)) = true := by simpa using c
    have c2 : (ableP s i == (0 : Int)) = false := by simpa using c
    rw [HR.out]
    clear h c HR hok hbv hbl hcb
    generalize ableP s i = er at *
    go_enter Try.func32, Try.ntmps32
    go_wp2_with (fail)
    refine (HAB.out).mono ?_
    rintro e w1 ⟨rfl, ⟨nd, rfl⟩⟩
    go_wp2
    go_ret
    exact ⟨rfl, H2.out.drN nd, HW2.out.drew1 nd⟩
  · rw [c] at HAB
    have HJ := Aside0.mk hj
    obtain ⟨hx1, hx2, hx3, hx4⟩ := box_cells w g (j : Int) (.slice B bs.length cb)
    have HB1 := Aside0.mk hx1
    have HB2 := Aside0.mk hx2
    have HB3 := Aside0.mk hx3
    have HZ := Aside0.mk hx4
    have hc27 : s.room = s.room → ∃ d, At (B3 w g (j : Int) (.slice B bs.length cb)) g d ∧ d.room = s.room := fun _ => by
      obtain ⟨_, _, d, hA, hR⟩ := H2.out
      exact ⟨d, hA, hR.2.2.2.1⟩
    obtain ⟨d, hA, hrm⟩ := hc27 rfl
    have HA27 := Aside0.mk (show (B3 w g (j : Int) (.slice B bs.length cb)).cell? ⟨g, 27, none⟩ = some (.int .i64 s.room) by rw [← hrm]; exact hA.c27)
    have HC := Aside0.mk c
    obtain ⟨r, hr⟩ : ∃ r, appendP s (j : Int) bs = r := ⟨_, rfl⟩
    rw [hr]
    have HRR := Aside0.mk hr
    clear hr
    clear h c hok hbv hbl hcb hx1 hx2 hx3 hx4 hj hA hrm
    go_enter Try.func32, Try.ntmps32
    go_wp2_with (fail)
    refine (HAB.out).mono ?_
    rintro e w1 ⟨rfl, ⟨nd, rfl⟩⟩
    go_wp2
    refine with_w (fun w' => IsD G w' g s ∧ Wr g w w' ∧ w'.cell? ⟨w.heap.size, 0, none⟩ = some (.pointer (some ⟨g, 0, none⟩)) ∧ w'.cell? ⟨w.heap.size + 1, 0, none⟩ = some (.int .i64 (j : Int)) ∧ w'.cell? ⟨w.heap.size + 2, 0, none⟩ = some (.slice B bs.length cb) ∧ w'.cell? ⟨g, 27, none⟩ = some (.int .i64 s.room)) ⟨H2.out.drN nd, HW2.out.drew1 nd, HB1.out, HB2.out, HB3.out, HA27.out⟩ ?_
    clear H2 HW2 HB1 HB2 HB3 HA27 HZ HAB
    rintro wr ⟨h3, hW, hb1, hb2, hb3, hc27⟩
    have H3 := Aside0.mk h3
    have HW := Aside0.mk hW
    have HB2 := Aside0.mk hb2
    have HL1 := Aside0.mk (World.block_lt_of_cell? wr _ hb1)
    have HL2 := Aside0.mk (World.block_lt_of_cell? wr _ hb2)
    have HL3 := Aside0.mk (World.block_lt_of_cell? wr _ hb3)
    have HLG := Aside0.mk h3.ltg
    obtain ⟨D, hD⟩ : ∃ D : Int, s.room - (usedP s : Int) = D := ⟨_, rfl⟩
    have hU := used_le HOK.out.1
    have hRM := HOK.out.1.room
    have hw1 : wrap64 (s.room - (usedP s : Int)) = D := by unfold wrap64; omega
    have hw2 : IntKind.i64.wrap (s.room - (usedP s : Int)) = D := by clear hw1; exact (IntWalk.i64_in _ (by omega)).trans hD
    by_cases cf : D < (bs.length : Int)
    · have d1 : decide (D < (bs.length : Int)) = true := decide_eq_true cf
      have HR := Aside0.mk (show appendP s (j : Int) bs = (s, 7) by unfold appendP; rw [if_neg (by rw [HC.out]; decide), if_pos (by clear hw1 hw2 d1; omega)])
      rw [HR.out] at HRR
      clear h3 hW hb2 hD hU hRM cf
      refine start_ (n := 10) (S := fun w' => w'.cell? ⟨w.heap.size, 0, none⟩ = some (.pointer (some ⟨g, 0, none⟩)) ∧ w'.cell? ⟨w.heap.size + 2, 0, none⟩ = some (.slice B bs.length cb) ∧ w'.cell? ⟨g, 27, none⟩ = some (.int .i64 s.room)) (ds := []) #[false, false, false, false, false, false, false, false, false, false] (by kernel_rfl) rfl rfl ⟨hb1, hb3, hc27⟩ (fun hHeld => ?_)
      refine take_ (i := 0) (N := some 14) (v := ?_) (a' := ?_) #[true, false, false, false, false, false, false, false, false, false] rfl rfl (by kernel_rfl) (fun _ _ _ h => h) (Or.inl ⟨by rfl, ?_⟩) hHeld ?_ ?_
      rotate_left
      · rintro w' ⟨s0, s1, s2⟩
        go_simp
        with_reducible rfl
      rotate_left
      · simp only [Act.put, List.setIfInBounds_toArray, List.set_cons_zero, List.set_cons_succ, i64_w, i32_w]
        rfl
      refine pure_ (i := 1) (N := some 15) (v := ?_) (a' := ?_) #[true, true, false, false, false, false, false, false, false, false] rfl rfl (by kernel_rfl) (fun _ _ _ h => h) (Or.inl ⟨by rfl, ?_⟩) ?_ ?_
      rotate_left
      · intro w'
        go_simp
        with_reducible rfl
      rotate_left
      · simp only [Act.put, List.setIfInBounds_toArray, List.set_cons_zero, List.set_cons_succ, i64_w, i32_w]
        rfl
      refine take_ (i := 2) (N := some 16) (v := ?_) (a' := ?_) #[true, true, true, false, false, false, false, false, false, false] rfl rfl (by kernel_rfl) (fun _ _ _ h => h) (Or.inl ⟨by rfl, ?_⟩) hHeld ?_ ?_
      rotate_left
      · rintro w' ⟨s0, s1, s2⟩
        go_simp
        with_reducible rfl
      rotate_left
      · simp only [Act.put, List.setIfInBounds_toArray, List.set_cons_zero, List.set_cons_succ, i64_w, i32_w]
        rfl
      refine pure_ (i := 3) (N := some 17) (v := ?_) (a' := ?_) #[true, true, true, true, false, false, false, false, false, false] rfl rfl (by kernel_rfl) (fun _ _ _ h => h) (Or.inl ⟨by rfl, ?_⟩) ?_ ?_
      rotate_left
      · intro w'
        go_simp
        with_reducible rfl
      rotate_left
      · simp only [Act.put, List.setIfInBounds_toArray, List.set_cons_zero, List.set_cons_succ, i64_w, i32_w]
        rfl
      refine pure_ (i := 4) (N := some 18) (v := ?_) (a' := ?_) #[true, true, true, true, true, false, false, false, false, false] rfl rfl (by kernel_rfl) (fun _ _ _ h => h) (Or.inl ⟨by rfl, ?_⟩) ?_ ?_
      rotate_left
      · intro w'
        go_simp
        with_reducible rfl
      rotate_left
      · simp only [Act.put, List.setIfInBounds_toArray, List.set_cons_zero, List.set_cons_succ, i64_w, i32_w]
        rfl
      refine take_ (i := 5) (N := some 19) (v := ?_) (a' := ?_) #[true, true, true, true, true, true, false, false, false, false] rfl rfl (by kernel_rfl) (fun _ _ _ h => h) (Or.inl ⟨by rfl, ?_⟩) hHeld ?_ ?_
      rotate_left
      · rintro w' ⟨s0, s1, s2⟩
        go_simp
        with_reducible rfl
      rotate_left
      · simp only [Act.put, List.setIfInBounds_toArray, List.set_cons_zero, List.set_cons_succ, i64_w, i32_w]
        rfl
      refine take_ (i := 6) (N := some 20) (v := ?_) (a' := ?_) #[true, true, true, true, true, true, true, false, false, false] rfl rfl (by kernel_rfl) (fun _ _ _ h => h) (Or.inl ⟨by rfl, ?_⟩) hHeld ?_ ?_
      rotate_left
      · rintro w' ⟨s0, s1, s2⟩
        go_simp
        with_reducible rfl
      rotate_left
      · simp only [Act.put, List.setIfInBounds_toArray, List.set_cons_zero, List.set_cons_succ, i64_w, i32_w]
        rfl
      refine one_ (i := 7) (N := some 21) #[true, true, true, true, true, true, true, true, false, false] rfl rfl (by kernel_rfl) (by decide) (fun K hK => ?_)
      refine goes_ Try.func18 (by kernel_rfl) rfl #[.pointer (some ⟨g, 0, none⟩)] (by rfl) rfl rfl (by first | rfl | (simp; done) | (simp only [List.map_toArray, List.map_cons, List.map_nil]; rfl)) ?_
      with_reducible refine (Used_calls G g s _ (by repeat (first | exact H3.out | (with_reducible refine IsD.dr ?_) | (with_reducible refine IsD.drN ?_ _))) HOK1.out).mono ?_
      rintro e w3 ⟨rfl, hb⟩
      refine ⟨_, rfl, ?_⟩
      refine hK.out _ _ ⟨(hb.cell (p := ⟨w.heap.size, 0, none⟩) HL1.out).trans hHeld.1, (hb.cell (p := ⟨w.heap.size + 2, 0, none⟩) HL3.out).trans hHeld.2.1, (hb.cell (p := ⟨g, 27, none⟩) HLG.out).trans hHeld.2.2⟩ (fun hHeld => ?_)
      clear hK K
      refine norm_ (a' := ?_) ?_ ?_
      rotate_left
      · show Act.put _ (some 21) _ = _
        simp only [Act.put, List.setIfInBounds_toArray, List.set_cons_zero, List.set_cons_succ, i64_w, i32_w]
        rfl
      refine pure_ (i := 8) (N := some 22) (v := ?_) (a' := ?_) #[true, true, true, true, true, true, true, true, true, false] rfl rfl (by kernel_rfl) (fun _ _ _ h => h) (Or.inl ⟨by rfl, ?_⟩) ?_ ?_
      rotate_left
      · intro w'
        go_simp
        with_reducible rfl
      rotate_left
      · simp only [Act.put, List.setIfInBounds_toArray, List.set_cons_zero, List.set_cons_succ, i64_w, i32_w]
        rfl
      refine pure_ (i := 9) (N := some 23) (v := ?_) (a' := ?_) #[true, true, true, true, true, true, true, true, true, true] rfl rfl (by kernel_rfl) (fun _ _ _ h => h) (Or.inl ⟨by rfl, ?_⟩) ?_ ?_
      rotate_left
      · intro w'
        go_simp
        with_reducible rfl
      rotate_left
      · simp only [Act.put, List.setIfInBounds_toArray, List.set_cons_zero, List.set_cons_succ, i64_w, i32_w]
        rfl
      refine done_ (by kernel_rfl) ?_
      have HB := Aside0.mk (below_step (below_drew1 (Below.refl wr.heap.size wr)) hb)
      clear hb
      go_wp2
      go_ret
      rw [← HRR.out]
      exact ⟨rfl, H3.out.below HB.out, HW.out.trans (Wr.of_below HB.out)⟩
    · have d1 : decide (D < (bs.length : Int)) = false := decide_eq_false cf
      have HNF := Aside0.mk (show ¬ s.room < (usedP s : Int) + (bs.length : Int) by clear hw1 hw2 d1; omega)
      have HR := Aside0.mk (show appendP s (j : Int) bs = actP s bs.length (doneA j bs) by unfold appendP; rw [if_neg (by rw [HC.out]; decide), if_neg HNF.out, Int.toNat_natCast])
      rw [HR.out] at HRR
      clear h3 hW hb2 hD hU hRM cf
      refine start_ (n := 10) (S := fun w' => w'.cell? ⟨w.heap.size, 0, none⟩ = some (.pointer (some ⟨g, 0, none⟩)) ∧ w'.cell? ⟨w.heap.size + 2, 0, none⟩ = some (.slice B bs.length cb) ∧ w'.cell? ⟨g, 27, none⟩ = some (.int .i64 s.room)) (ds := []) #[false, false, false, false, false, false, false, false, false, false] (by kernel_rfl) rfl rfl ⟨hb1, hb3, hc27⟩ (fun hHeld => ?_)
      refine take_ (i := 0) (N := some 14) (v := ?_) (a' := ?_) #[true, false, false, false, false, false, false, false, false, false] rfl rfl (by kernel_rfl) (fun _ _ _ h => h) (Or.inl ⟨by rfl, ?_⟩) hHeld ?_ ?_
      rotate_left
      · rintro w' ⟨s0, s1, s2⟩
        go_simp
        with_reducible rfl
      rotate_left
      · simp only [Act.put, List.setIfInBounds_toArray, List.set_cons_zero, List.set_cons_succ, i64_w, i32_w]
        rfl
      refine pure_ (i := 1) (N := some 15) (v := ?_) (a' := ?_) #[true, true, false, false, false, false, false, false, false, false] rfl rfl (by kernel_rfl) (fun _ _ _ h => h) (Or.inl ⟨by rfl, ?_⟩) ?_ ?_
      rotate_left
      · intro w'
        go_simp
        with_reducible rfl
      rotate_left
      · simp only [Act.put, List.setIfInBounds_toArray, List.set_cons_zero, List.set_cons_succ, i64_w, i32_w]
        rfl
      refine take_ (i := 2) (N := some 16) (v := ?_) (a' := ?_) #[true, true, true, false, false, false, false, false, false, false] rfl rfl (by kernel_rfl) (fun _ _ _ h => h) (Or.inl ⟨by rfl, ?_⟩) hHeld ?_ ?_
      rotate_left
      · rintro w' ⟨s0, s1, s2⟩
        go_simp
        with_reducible rfl
      rotate_left
      · simp only [Act.put, List.setIfInBounds_toArray, List.set_cons_zero, List.set_cons_succ, i64_w, i32_w]
        rfl
      refine pure_ (i := 3) (N := some 17) (v := ?_) (a' := ?_) #[true, true, true, true, false, false, false, false, false, false] rfl rfl (by kernel_rfl) (fun _ _ _ h => h) (Or.inl ⟨by rfl, ?_⟩) ?_ ?_
      rotate_left
      · intro w'
        go_simp
        with_reducible rfl
      rotate_left
      · simp only [Act.put, List.setIfInBounds_toArray, List.set_cons_zero, List.set_cons_succ, i64_w, i32_w]
        rfl
      refine pure_ (i := 4) (N := some 18) (v := ?_) (a' := ?_) #[true, true, true, true, true, false, false, false, false, false] rfl rfl (by kernel_rfl) (fun _ _ _ h => h) (Or.inl ⟨by rfl, ?_⟩) ?_ ?_
      rotate_left
      · intro w'
        go_simp
        with_reducible rfl
      rotate_left
      · simp only [Act.put, List.setIfInBounds_toArray, List.set_cons_zero, List.set_cons_succ, i64_w, i32_w]
        rfl
      refine take_ (i := 5) (N := some 19) (v := ?_) (a' := ?_) #[true, true, true, true, true, true, false, false, false, false] rfl rfl (by kernel_rfl) (fun _ _ _ h => h) (Or.inl ⟨by rfl, ?_⟩) hHeld ?_ ?_
      rotate_left
      · rintro w' ⟨s0, s1, s2⟩
        go_simp
        with_reducible rfl
      rotate_left
      · simp only [Act.put, List.setIfInBounds_toArray, List.set_cons_zero, List.set_cons_succ, i64_w, i32_w]
        rfl
      refine take_ (i := 6) (N := some 20) (v := ?_) (a' := ?_) #[true, true, true, true, true, true, true, false, false, false] rfl rfl (by kernel_rfl) (fun _ _ _ h => h) (Or.inl ⟨by rfl, ?_⟩) hHeld ?_ ?_
      rotate_left
      · rintro w' ⟨s0, s1, s2⟩
        go_simp
        with_reducible rfl
      rotate_left
      · simp only [Act.put, List.setIfInBounds_toArray, List.set_cons_zero, List.set_cons_succ, i64_w, i32_w]
        rfl
      refine one_ (i := 7) (N := some 21) #[true, true, true, true, true, true, true, true, false, false] rfl rfl (by kernel_rfl) (by decide) (fun K hK => ?_)
      refine goes_ Try.func18 (by kernel_rfl) rfl #[.pointer (some ⟨g, 0, none⟩)] (by rfl) rfl rfl (by first | rfl | (simp; done) | (simp only [List.map_toArray, List.map_cons, List.map_nil]; rfl)) ?_
      with_reducible refine (Used_calls G g s _ (by repeat (first | exact H3.out | (with_reducible refine IsD.dr ?_) | (with_reducible refine IsD.drN ?_ _))) HOK1.out).mono ?_
      rintro e w3 ⟨rfl, hb⟩
      refine ⟨_, rfl, ?_⟩
      refine hK.out _ _ ⟨(hb.cell (p := ⟨w.heap.size, 0, none⟩) HL1.out).trans hHeld.1, (hb.cell (p := ⟨w.heap.size + 2, 0, none⟩) HL3.out).trans hHeld.2.1, (hb.cell (p := ⟨g, 27, none⟩) HLG.out).trans hHeld.2.2⟩ (fun hHeld => ?_)
      clear hK K
      refine norm_ (a' := ?_) ?_ ?_
      rotate_left
      · show Act.put _ (some 21) _ = _
        simp only [Act.put, List.setIfInBounds_toArray, List.set_cons_zero, List.set_cons_succ, i64_w, i32_w]
        rfl
      refine pure_ (i := 8) (N := some 22) (v := ?_) (a' := ?_) #[true, true, true, true, true, true, true, true, true, false] rfl rfl (by kernel_rfl) (fun _ _ _ h => h) (Or.inl ⟨by rfl, ?_⟩) ?_ ?_
      rotate_left
      · intro w'
        go_simp
        with_reducible rfl
      rotate_left
      · simp only [Act.put, List.setIfInBounds_toArray, List.set_cons_zero, List.set_cons_succ, i64_w, i32_w]
        rfl
      refine pure_ (i := 9) (N := some 23) (v := ?_) (a' := ?_) #[true, true, true, true, true, true, true, true, true, true] rfl rfl (by kernel_rfl) (fun _ _ _ h => h) (Or.inl ⟨by rfl, ?_⟩) ?_ ?_
      rotate_left
      · intro w'
        go_simp
        with_reducible rfl
      rotate_left
      · simp only [Act.put, List.setIfInBounds_toArray, List.set_cons_zero, List.set_cons_succ, i64_w, i32_w]
        rfl
      refine done_ (by kernel_rfl) ?_
      have HB := Aside0.mk (below_step (below_drew1 (Below.refl wr.heap.size wr)) hb)
      have hc1 : w3.cell? ⟨w.heap.size, 0, none⟩ = some (.pointer (some ⟨g, 0, none⟩)) := (HB.out.cell (p := ⟨w.heap.size, 0, none⟩) HL1.out).trans hb1
      have hc3 : w3.cell? ⟨w.heap.size + 2, 0, none⟩ = some (.slice B bs.length cb) := (HB.out.cell (p := ⟨w.heap.size + 2, 0, none⟩) HL3.out).trans hb3
      have HC1 := Aside0.mk hc1
      have HC3 := Aside0.mk hc3
      have HC2 := Aside0.mk ((HB.out.cell (p := ⟨w.heap.size + 1, 0, none⟩) HL2.out).trans HB2.out)
      have HBV3 := Aside0.mk (HBV.out.step (fun b hb hlt => (HW.out.trans (Wr.of_below HB.out)).block b hlt hb))
      clear hb hb1 hb3 hc27 hw1 hw2
      go_wp2_with (fail)
      refine (act46_calls G g s bs.length (doneA j bs) (.pointer (some ⟨w.heap.size, 0, none⟩)) (.pointer (some ⟨w.heap.size + 1, 0, none⟩)) (.pointer (some ⟨w.heap.size + 2, 0, none⟩)) _ (H3.out.below HB.out) HOK.out.1 HBL.out (fun s' m w' hI hfs hW hm => ?cl) ((HOK.out.1.burn _).doneA HJ.out bs _ (by rw [fl_burn]; exact fits HOK.out.1 HJ.out bs (by have := HNF.out; omega))) (keepA j bs s _ _) HOK.out.2).mono ?_
      case cl =>
        have hs' : (fl s' j).seen.length ≤ 4194304 := by
          have := HOK.out.1.seen_le HJ.out
          unfold fl at this ⊢
          rw [hfs]; exact this
        exact c46_calls G g s' j m bs B cb w.heap.size (w.heap.size + 1) (w.heap.size + 2) w' hI HJ.out hs' (hW.cell (b := w.heap.size) HC1.out (by have := HG.out; omega)) (hW.cell (b := w.heap.size + 1) HC2.out (by have := HG.out; omega)) (hW.cell (b := w.heap.size + 2) HC3.out (by have := HG.out; omega)) (Kd.V_reads' (HBV3.out.step (fun b hb hlt => hW.block b hlt hb))).2.2 HCB.out hm HBL.out
      rintro e w4 ⟨rfl, hI, hW⟩
      have HI := Aside0.mk hI
      have HWF := Aside0.mk ((HW.out.trans (Wr.of_below HB.out)).trans hW)
      clear hI hW
      go_wp2
      go_ret
      rw [← HRR.out]
      exact ⟨rfl, HI.out, HWF.out⟩
end Go.Proofs.Ytehjbhnlbjbhfaa.Dk
-- DkK
namespace Go.Proofs.Ytehjbhnlbjbhfaa.Dk
open Go Go.RowKit Go.Proofs.YtehjbhnlbjbhfaaW.PrintWords Go.Proofs.YtehjbhnlbjbhfaaW.PrintLast Go.Proofs.YtehjbhnlbjbhfaaW.PrintMore
open Go.Proofs.Ytehjbhnlbjbhfaa.PDiskBegins
set_option linter.unusedVariables false
set_option linter.unusedSimpArgs false
theorem IsD.grow {G G' : Nat → Prop} {g : Nat} {W : World} {s : DS} (h : IsD G W g s) (hlt : ∀ k, G' k → k < W.heap.size) (hg : G' g) (hs : ∀ k, k < W.heap.size → G' k → G k) : IsD G' W g s := by
  obtain ⟨_, _, d, hA, hR⟩ := h
  exact ⟨hlt, hg, d, hA, hR.1, hR.2.1, hR.2.2.1.grow hs, hR.2.2.2.1, hR.2.2.2.2.1, hR.2.2.2.2.2.1, fun i hi => ⟨(hR.2.2.2.2.2.2 i hi).1.grow hs, (hR.2.2.2.2.2.2 i hi).2.1.grow hs, (hR.2.2.2.2.2.2 i hi).2.2⟩⟩
def zDV (room : Int) : DV := ⟨false, 0, .slice none 0 0, List.replicate 8 nv, room, false⟩
theorem zRows (G : Nat → Prop) (W : World) (room : Int) : Rows G W (zDV room) (newP room) := by
  refine ⟨rfl, rfl, Rw.nil _ _ _, rfl, rfl, rfl, fun i hi => ?_⟩
  have h1 : (zDV room).f i = nv := by rcases below8 hi with rfl | rfl | rfl | rfl | rfl | rfl | rfl | rfl <;> rfl
  have h2 : fl (newP room) i = nf := by rcases below8 hi with rfl | rfl | rfl | rfl | rfl | rfl | rfl | rfl <;> rfl
  rw [h1, h2]
  exact ⟨Rw.nil _ _ _, Rw.nil _ _ _, rfl⟩
set_option maxHeartbeats 8000000 in
set_option maxRecDepth 100000 in
theorem New_calls (room : Int) (w : World) (h1 : 1 ≤ room) (h2 : room ≤ 4194304) : Calls Try.prog 10 #[.int .i64 room] w fun e w' => ∃ b, e = .returned (.tuple #[.pointer (some ⟨b, 0, none⟩), .int .i64 0]) ∧ w.heap.size ≤ b ∧ b < w'.heap.size ∧ Below w.heap.size w w' ∧ ∀ G : Nat → Prop, (∀ k, G k → k < w'.heap.size) → G b → IsD G w' b (newP room) := by
  have d1 : decide (room < 1) = false := decide_eq_false (by omega)
  have d2 : decide (4194304 < room) = false := decide_eq_false (by omega)
  clear h1 h2
  go_enter Try.func10, Try.ntmps10
  go_wp2
  go_ret2
  refine ⟨w.heap.size, rfl, Nat.le_refl _, by simp, below_alloc (Below.refl _ _) _, fun G hG hb => ⟨hG, hb, zDV room, ⟨rfl, ?_⟩, zRows _ _ _⟩⟩
  exact blk_new w _
end Go.Proofs.Ytehjbhnlbjbhfaa.Dk
-- DkL
namespace Go.Proofs.Ytehjbhnlbjbhfaa.Dk
open Go Go.RowKit Go.Proofs.YtehjbhnlbjbhfaaW.PrintWords Go.Proofs.YtehjbhnlbjbhfaaW.PrintLast Go.Proofs.YtehjbhnlbjbhfaaW.PrintMore
open Go.Proofs.Ytehjbhnlbjbhfaa.PDiskBegins
set_option linter.unusedVariables false
set_option linter.unusedSimpArgs false
end Go.Proofs.Ytehjbhnlbjbhfaa.Dk
-- DkM
namespace Go.Proofs.Ytehjbhnlbjbhfaa.Dk
open Go Go.RowKit Go.Proofs.YtehjbhnlbjbhfaaW.PrintWords Go.Proofs.YtehjbhnlbjbhfaaW.PrintLast Go.Proofs.YtehjbhnlbjbhfaaW.PrintMore
open Go.Proofs.Ytehjbhnlbjbhfaa.PDiskBegins
set_option linter.unusedVariables false
set_option linter.unusedSimpArgs false
end Go.Proofs.Ytehjbhnlbjbhfaa.Dk
-- DkS
namespace Go.Proofs.Ytehjbhnlbjbhfaa.Dk
open Go Go.RowKit Go.Proofs.YtehjbhnlbjbhfaaW.PrintWords Go.Proofs.YtehjbhnlbjbhfaaW.PrintLast Go.Proofs.YtehjbhnlbjbhfaaW.PrintMore
open Go.Proofs.Ytehjbhnlbjbhfaa.PDiskBegins
set_option linter.unusedVariables false
set_option linter.unusedSimpArgs false
def aw0 : DS := newP 100
def aw1 : DS := (appendP aw0 0 [97, 98]).1
def aw2 : DS := (syncP aw1 0).1
def aw3 : DS := (appendP aw2 0 [99, 100]).1
def aw4 : DS := (crashP aw3 [1]).1
def aw5 : DS := (startP aw4).1
def aw6 : DS := (armP aw5 1 []).1
def aw7 : DS := (appendP aw6 0 [120, 121]).1
def aw8 : DS := (startP aw7).1
theorem ea1 : appendP aw0 0 [97, 98] = (aw1, 0) := rfl
theorem ea2 : syncP aw1 0 = (aw2, 0) := rfl
theorem ea3 : appendP aw2 0 [99, 100] = (aw3, 0) := rfl
theorem ea4 : crashP aw3 [1] = (aw4, 0) := rfl
theorem ea5 : startP aw4 = (aw5, 0) := rfl
theorem ea6 : armP aw5 1 [] = (aw6, 0) := rfl
theorem ea7 : appendP aw6 0 [120, 121] = (aw7, 50) := rfl
theorem ea8 : (startP aw7).1 = aw8 := rfl
theorem er5 : readP aw5 0 = ([97, 98, 99], 0) := rfl
theorem er8 : readP aw8 0 = ([97, 98, 99], 0) := rfl
theorem ok0 : Okk aw0 := newP_okk 100 (by decide)
theorem ok1 : Okk aw1 := ok0.append _ _
theorem ok2 : Okk aw2 := ok1.sync _
theorem ok3 : Okk aw3 := ok2.append _ _
theorem ok4 : Okk aw4 := ok3.crash _
theorem ok5 : Okk aw5 := ok4.start
theorem ok6 : Okk aw6 := ok5.arm _ _ (by decide) (fun x hx => by cases hx) (by decide)
theorem ok7 : Okk aw7 := ok6.append _ _
theorem ok8 : Okk aw8 := ok7.start
theorem lit_row {G : Nat → Prop} (k : IntKind) (W : World) (xs : List Int) (e : TypeId) (fr : Nat × Nat) (hG : ∀ b, G b → b < W.heap.size) (hm : xs.length ≤ 9223372036854775807) : Rw G k (W.alloc (.cells (xs.map (Value.int k)).toArray e fr)) (.slice (some ⟨W.heap.size, 0, none⟩) xs.length xs.length) xs := by
  refine Kd.V_mk (Nat.le_refl _) ?_
  intro W' hW
  have h1 := (hW W.heap.size (fun h => by have := hG _ h; omega) (by simp)).trans (blk_new W (.cells (xs.map (Value.int k)).toArray e fr))
  refine ⟨rfl, hm, fun _ => ⟨_, rfl, fun j p hj => ⟨[.int k p], rfl, rfl, fun i u hi => ?_⟩⟩⟩
  have hi0 : i = 0 := by
    have := (List.getElem?_eq_some_iff.1 hi).1
    simp at this; exact this
  subst hi0
  injection hi with hi
  subst hi
  have ha : (⟨W.heap.size, 0, none⟩ : Addr).add (j * (Kd.int k).sz + 0) = ⟨W.heap.size, j, none⟩ := by
    rw [add_at, show (Kd.int k).sz = 1 from rfl]; simp
  rw [ha, cell_of_row W' W.heap.size j _ e fr h1, List.getElem?_toArray, List.getElem?_map, hj]
  rfl
set_option maxHeartbeats 8000000 in
set_option maxRecDepth 100000 in
theorem awake_calls (w : World) : Calls Try.prog 13 #[] w fun e w' => e = .returned (.bool true) ∧ Below w.heap.size w w' := by
  have kc := fun (w : World) (C : Array Value) (n c : Nat) => Lib.run_convert_bytes_const (P := Try.prog) w 32 5 C n c Try.underlying32 Try.underlying5
  go_enter Try.func13, Try.ntmps13
  go_wp2_with (fail)
  refine (New_calls 100 w (by decide) (by decide)).mono ?_
  rintro e w1 ⟨b, rfl, hb, hb1, hB, hI⟩
  have HG := Aside0.mk hb
  have HI := Aside0.mk (show IsD (fun k => k = b) w1 b aw0 from hI (fun k => k = b) (fun k hk => hk ▸ hb1) rfl)
  have HB := Aside0.mk hB
  clear hb hb1 hB hI
  go_wp2_with (fail)
  refine (Append_calls _ b aw0 0 _ [97, 98] _ (HI.out.al (.cells #[.int .u8 97, .int .u8 98] 5 (2, 3))) ok0 (lit_row .u8 w1 [97, 98] 5 (2, 3) HI.out.lt (by decide)) (by decide)).mono ?_
  rintro e w2 ⟨rfl, hI, hW⟩
  rw [ea1] at hI
  rw [show (appendP aw0 0 [97, 98]).2 = 0 from rfl]
  have HI2 := Aside0.mk hI
  have HB2 := Aside0.mk (hW.below (below_alloc HB.out _) HG.out)
  clear hI hW
  go_wp2_with (fail)
  refine (Sync_calls _ b aw1 0 _ HI2.out ok1).mono ?_
  rintro e w3 ⟨rfl, hI, hW⟩
  rw [ea2] at hI
  rw [show (syncP aw1 0).2 = 0 from rfl]
  have HI3 := Aside0.mk hI
  have HB3 := Aside0.mk (hW.below HB2.out HG.out)
  clear hI hW HI2 HB2
  go_wp2_with (fail)
  refine (Append_calls _ b aw2 0 _ [99, 100] _ (HI3.out.al (.cells #[.int .u8 99, .int .u8 100] 5 (2, 3))) ok2 (lit_row .u8 w3 [99, 100] 5 (2, 3) HI3.out.lt (by decide)) (by decide)).mono ?_
  rintro e w4 ⟨rfl, hI, hW⟩
  rw [ea3] at hI
  rw [show (appendP aw2 0 [99, 100]).2 = 0 from rfl]
  have HI4 := Aside0.mk hI
  have HB4 := Aside0.mk (hW.below (below_alloc HB3.out _) HG.out)
  clear hI hW HI3 HB3
  go_wp2_with (fail)
  refine (Crash_calls _ b aw3 _ [1] _ (HI4.out.al (.cells #[.int .i64 1] 3)) ok3 (lit_row .i64 w4 [1] 3 (0, 0) HI4.out.lt (by decide)) (by intro x hx; simp at hx; subst hx; decide)).mono ?_
  rintro e w5 ⟨rfl, hI, hW⟩
  rw [ea4] at hI
  rw [show (crashP aw3 [1]).2 = 0 from rfl]
  have HI5 := Aside0.mk hI
  have HB5 := Aside0.mk (hW.below (below_alloc HB4.out _) HG.out)
  clear hI hW HI4 HB4
  go_wp2_with (fail)
  refine (Start_calls _ b aw4 _ HI5.out).mono ?_
  rintro e w6 ⟨rfl, hI, hW⟩
  rw [ea5] at hI
  rw [show (startP aw4).2 = 0 from rfl]
  have HI6 := Aside0.mk hI
  have HB6 := Aside0.mk (hW.below HB5.out HG.out)
  clear hI hW HI5 HB5
  go_wp2_with (fail)
  refine (Read_calls _ b aw5 0 _ HI6.out ok5.1).mono ?_
  rintro e w7 ⟨v, rfl, hR, hW⟩
  rw [er5] at hR
  rw [show (readP aw5 0).2 = 0 from rfl]
  obtain ⟨A, c, e3⟩ := Kd.R_slice hR
  subst e3
  have HI7 := Aside0.mk (HI6.out.below hW)
  have HB7 := Aside0.mk (below_step HB6.out hW)
  have HR := Aside0.mk hR
  clear hW HI6 HB6 hR
  have hcv : (convert 32 9 (.slice A 3 c)).run Try.prog w7 = .ok (.string (ByteArray.mk #[97, 98, 99])) w7 := (Kd.C_string (P := Try.prog) (A := A) (c := c) Try.underlying32 Try.underlying5 Try.underlying9 (Kd.R_reads' HR.out).2.2).trans rfl
  go_wp2_with (fail)
  clear hcv HR
  refine (Arm_calls _ b aw5 1 _ [] _ HI7.out ok5 (Rw.nil _ _ _) (by decide)).mono ?_
  rintro e w8 ⟨rfl, hI, hW⟩
  rw [ea6] at hI
  rw [show (armP aw5 1 []).2 = 0 from rfl]
  have HI8 := Aside0.mk hI
  have HB8 := Aside0.mk (hW.below HB7.out HG.out)
  clear hI hW HI7 HB7
  go_wp2_with (fail)
  refine (Append_calls _ b aw6 0 _ [120, 121] _ (HI8.out.al (.cells #[.int .u8 120, .int .u8 121] 5 (2, 3))) ok6 (lit_row .u8 w8 [120, 121] 5 (2, 3) HI8.out.lt (by decide)) (by decide)).mono ?_
  rintro e w9 ⟨rfl, hI, hW⟩
  rw [ea7] at hI
  rw [show (appendP aw6 0 [120, 121]).2 = 50 from rfl]
  have HI9 := Aside0.mk hI
  have HB9 := Aside0.mk (hW.below (below_alloc HB8.out _) HG.out)
  clear hI hW HI8 HB8
  go_wp2_with (fail)
  refine (Start_calls _ b aw7 _ HI9.out).mono ?_
  rintro e wa ⟨rfl, hI, hW⟩
  rw [ea8] at hI
  have HIa := Aside0.mk hI
  have HBa := Aside0.mk (hW.below HB9.out HG.out)
  clear hI hW HI9 HB9
  go_wp2_with (fail)
  refine (Read_calls _ b aw8 0 _ HIa.out ok8.1).mono ?_
  rintro e wb ⟨v, rfl, hR, hW⟩
  rw [er8] at hR
  rw [show (readP aw8 0).2 = 0 from rfl]
  obtain ⟨A8, c8, e3⟩ := Kd.R_slice hR
  subst e3
  have HIb := Aside0.mk (HIa.out.below hW)
  have HBb := Aside0.mk (below_step HBa.out hW)
  have HR := Aside0.mk hR
  clear hW HIa HBa hR
  have hcv : (convert 32 9 (.slice A8 3 c8)).run Try.prog wb = .ok (.string (ByteArray.mk #[97, 98, 99])) wb := (Kd.C_string (P := Try.prog) (A := A8) (c := c8) Try.underlying32 Try.underlying5 Try.underlying9 (Kd.R_reads' HR.out).2.2).trans rfl
  go_wp2_with (fail)
  refine (Append_calls _ b aw8 8 _ [] _ HIb.out ok8 (Rw.nil _ _ _) (by decide)).mono ?_
  rintro e wc ⟨rfl, hI, hW⟩
  rw [show (appendP aw8 8 []).2 = 51 from rfl]
  have HBc := Aside0.mk (hW.below HBb.out HG.out)
  clear hI hW HIb HBb hcv
  go_wp2_with (fail)
  go_ret
  exact ⟨rfl, HBc.out⟩
end Go.Proofs.Ytehjbhnlbjbhfaa.Dk
-- DkT
namespace Go.Proofs.Ytehjbhnlbjbhfaa.Dk
open Go Go.RowKit Go.Proofs.YtehjbhnlbjbhfaaW.PrintWords Go.Proofs.YtehjbhnlbjbhfaaW.PrintLast Go.Proofs.YtehjbhnlbjbhfaaW.PrintMore
open Go.Proofs.Ytehjbhnlbjbhfaa.PDiskBegins
set_option linter.unusedVariables false
set_option linter.unusedSimpArgs false
def Small (x : S35) : Prop := x.f3.length ≤ 16384 ∧ x.f4.length ≤ 16384
theorem mn_nn (a : Nat) : 0 ≤ mn (a : Int) 16385 ∧ mn (a : Int) 16385 ≤ 16385 ∧ (mn (a : Int) 16385 ≤ 16384 → a ≤ 16384) := by
  unfold mn
  split <;> omega
def bsum (l : List S35) : Nat := (l.map fun x => x.f3.length).sum
theorem bsum_drop (l : List S35) {i : Nat} (h : i < l.length) : bsum (l.drop i) = (rd_T35 l (i : Int)).f3.length + bsum (l.drop (i + 1)) := by
  unfold bsum rd_T35
  rw [List.drop_eq_getElem_cons h, List.map_cons, List.sum_cons, Int.toNat_natCast, List.getD_eq_getElem?_getD, List.getElem?_eq_getElem h]; rfl
theorem inner (x8 : List (List S35)) (x9 x10 : Int) (l : List S35) (hl : l.length ≤ 9223372036854775807) : ∀ (d i : Nat) (n acts : Int), i + d = l.length → 0 ≤ n → n ≤ 49154 → 0 ≤ acts → acts ≤ 151 →
    ∃ n' acts' : Int, n ≤ n' ∧ n' ≤ 49154 ∧ acts ≤ acts' ∧ acts' ≤ 151 ∧ (n' ≤ 16384 → acts' ≤ 150 → ∀ j, i ≤ j → j < l.length → Small (rd_T35 l (j : Int))) ∧ (n' ≤ 16384 → acts' ≤ 150 → n + (bsum (l.drop i) : Nat) ≤ n') ∧
      ∀ k r, towlinelaw05_short.l0 k n' acts' x8 x9 (wrap64 (x10 + 1)) = some r → ∃ k', towlinelaw05_short.l1 k' n acts l (i : Int) x8 x9 x10 = some r := by
  intro d
  induction d with
  | zero =>
    intro i n acts hi h1 h2 h3 h4
    refine ⟨n, acts, Int.le_refl _, h2, Int.le_refl _, h4, fun _ _ j hj hj2 => by omega, fun _ _ => by rw [List.drop_eq_nil_of_le (by omega)]; simp [bsum], fun k r h => ⟨k + 1, ?_⟩⟩
    simp only [towlinelaw05_short.l1]
    rw [if_neg (by omega)]
    exact h
  | succ d ih =>
    intro i n acts hi h1 h2 h3 h4
    by_cases ca : acts ≤ 150
    · by_cases cn : n ≤ 16384
      · obtain ⟨p1, p2, p3⟩ := mn_nn (rd_T35 l (i : Int)).f3.length
        obtain ⟨q1, q2, q3⟩ := mn_nn (rd_T35 l (i : Int)).f4.length
        have e1 : wrap64 (n + (mn ((rd_T35 l (i : Int)).f3.length : Int) 16385 + mn ((rd_T35 l (i : Int)).f4.length : Int) 16385)) = n + (mn ((rd_T35 l (i : Int)).f3.length : Int) 16385 + mn ((rd_T35 l (i : Int)).f4.length : Int) 16385) := by unfold wrap64; omega
        have e2 : wrap64 (acts + 1) = acts + 1 := by unfold wrap64; omega
        have e3 : wrap64 ((i : Int) + 1) = ((i + 1 : Nat) : Int) := by unfold wrap64; omega
        obtain ⟨n', acts', a1, a2, a3, a4, a5, a7, a6⟩ := ih (i + 1) (n + (mn ((rd_T35 l (i : Int)).f3.length : Int) 16385 + mn ((rd_T35 l (i : Int)).f4.length : Int) 16385)) (acts + 1) (by omega) (by omega) (by omega) (by omega) (by omega)
        refine ⟨n', acts', by omega, a2, by omega, a4, fun b1 b2 j hj hj2 => ?_, fun b1 b2 => ?_, fun k r h => ?_⟩
        · by_cases e : j = i
          · subst e; exact ⟨p3 (by omega), q3 (by omega)⟩
          · exact a5 b1 b2 j (by omega) hj2
        · have hb := a7 b1 b2
          have hd := bsum_drop l (show i < l.length by omega)
          have hm : mn ((rd_T35 l (i : Int)).f3.length : Int) 16385 = ((rd_T35 l (i : Int)).f3.length : Int) := by
            have := p3 (by omega)
            unfold mn; rw [if_neg (by omega)]
          rw [hd]
          omega
        · obtain ⟨k', hk⟩ := a6 k r h
          refine ⟨k' + 1, ?_⟩
          simp only [towlinelaw05_short.l1]
          rw [if_pos (by omega), if_pos ca, if_pos cn, if_pos (by omega), e1, e2, e3]
          exact hk
      · refine ⟨n, acts, Int.le_refl _, h2, Int.le_refl _, h4, fun b _ => absurd b cn, fun b _ => absurd b cn, fun k r h => ⟨k + 1, ?_⟩⟩
        simp only [towlinelaw05_short.l1]
        rw [if_pos (by omega), if_pos ca, if_neg cn]
        exact h
    · refine ⟨n, acts, Int.le_refl _, h2, Int.le_refl _, h4, fun _ b => absurd b ca, fun _ b => absurd b ca, fun k r h => ⟨k + 1, ?_⟩⟩
      simp only [towlinelaw05_short.l1]
      rw [if_pos (by omega), if_neg ca]
      exact h
end Go.Proofs.Ytehjbhnlbjbhfaa.Dk
-- DkU
namespace Go.Proofs.Ytehjbhnlbjbhfaa.Dk
open Go Go.RowKit Go.Proofs.YtehjbhnlbjbhfaaW.PrintWords Go.Proofs.YtehjbhnlbjbhfaaW.PrintLast Go.Proofs.YtehjbhnlbjbhfaaW.PrintMore
open Go.Proofs.Ytehjbhnlbjbhfaa.PDiskBegins
set_option linter.unusedVariables false
end Go.Proofs.Ytehjbhnlbjbhfaa.Dk
-- DkV
namespace Go.Proofs.Ytehjbhnlbjbhfaa.Dk
open Go Go.RowKit Go.Proofs.YtehjbhnlbjbhfaaW.PrintWords Go.Proofs.YtehjbhnlbjbhfaaW.PrintLast Go.Proofs.YtehjbhnlbjbhfaaW.PrintMore
open Go.Proofs.Ytehjbhnlbjbhfaa.PDiskBegins
set_option linter.unusedVariables false
end Go.Proofs.Ytehjbhnlbjbhfaa.Dk
-- TpB
namespace Go.Proofs.Ytehjbhnlbjbhfaa.Tp
open Go Go.RowKit Go.Proofs.YtehjbhnlbjbhfaaW.PrintWords Go.Proofs.YtehjbhnlbjbhfaaW.PrintLast Go.Proofs.YtehjbhnlbjbhfaaW.PrintMore Go.Proofs.Ytehjbhnlbjbhfaa.Wire Go.Proofs.Ytehjbhnlbjbhfaa.Wk Go.Proofs.Ytehjbhnlbjbhfaa.Dk
open Go.Proofs.Ytehjbhnlbjbhfaa.PTapePlays
set_option linter.unusedVariables false
theorem psum_l1 (s : List Int) (x8 x9 : Int) : ∀ (n j k : Nat) (c : Nat), c < 4294967296 → j + n = 8 → n < k → wire_Sum.l1 k (c : Int) s x8 x9 (j : Int) = wire_Sum.l0 (k - n - 1) ((bitsS n c : Nat) : Int) s x8 (wrap64 (x9 + 1)) := by
  intro n
  induction n with
  | zero =>
    intro j k c hc hj hk
    obtain ⟨k, rfl⟩ : ∃ k', k = k' + 1 := ⟨k - 1, by omega⟩
    simp only [wire_Sum.l1]
    rw [if_neg (by omega)]
    rfl
  | succ n ih =>
    intro j k c hc hj hk
    obtain ⟨k, rfl⟩ : ∃ k', k = k' + 1 := ⟨k - 1, by omega⟩
    simp only [wire_Sum.l1]
    rw [if_pos (by omega), bit_w c hc, show wrap64 ((j : Int) + 1) = ((j + 1 : Nat) : Int) by unfold wrap64; omega, ih (j + 1) k (bitS c) (bitS_lt hc) (by omega) (by omega), show k + 1 - (n + 1) - 1 = k - n - 1 by omega]
    rfl
theorem psum_l0 (s : List Int) (hs : Bs s) (hlen : s.length < 140737488355328) : ∀ (r : List Int) (i k c : Nat), s.drop i = r → c < 4294967296 → i ≤ s.length → 10 * r.length < k → wire_Sum.l0 k (c : Int) s (s.length : Int) (i : Int) = some ((4294967295 ^^^ crc r c : Nat) : Int) := by
  intro r
  induction r with
  | nil =>
    intro i k c hd hc hi hk
    obtain ⟨k, rfl⟩ : ∃ k', k = k' + 1 := ⟨k - 1, by omega⟩
    have h0 := List.drop_eq_nil_iff.1 hd
    simp only [wire_Sum.l0]
    rw [if_neg (by omega), show (4294967295 : Int) = ((4294967295 : Nat) : Int) from rfl, u32_xor_nat _ _ (by decide) hc]
    rfl
  | cons x r ih =>
    intro i k c hd hc hi hk
    obtain ⟨hx, hlt, hmem, hd2⟩ := rd_drop hd
    obtain ⟨hx0, hx1⟩ := hs x hmem
    obtain ⟨b, rfl⟩ := Int.eq_ofNat_of_zero_le hx0
    rw [List.length_cons] at hk
    obtain ⟨k, rfl⟩ : ∃ k', k = k' + 1 := ⟨k - 1, by omega⟩
    simp only [wire_Sum.l0]
    rw [if_pos (by omega), if_pos (by omega), if_pos (by omega), hx, show (b : Int) % 4294967296 = (b : Int) by omega, u32_xor_nat _ _ hc (by omega)]
    have h1 := psum_l1 s (s.length : Int) (i : Int) 8 0 k (c ^^^ b) (xor_lt hc (by omega)) rfl (by omega)
    refine h1.trans ?_
    clear h1
    rw [show wrap64 ((i : Int) + 1) = ((i + 1 : Nat) : Int) by unfold wrap64; omega]
    exact ih (i + 1) _ _ hd2 (bitsS_lt 8 _ (xor_lt hc (by omega))) (by omega) (by omega)
theorem psum (s : List Int) (hs : Bs s) (hlen : s.length < 140737488355328) (k : Nat) (hk : 10 * s.length < k) : wire_Sum.f k s = some (sumP s) := psum_l0 s hs hlen s 0 k 4294967295 rfl (by decide) (Nat.zero_le _) hk
theorem pput (l ns : List Int) (h0 : ns ≠ []) (h1 : ∀ x ∈ ns, 0 ≤ x ∧ x < 18446744073709551616) (h2 : l.length + 10 * ns.length < 140737488355328) : wire_Put.f l ns = some (l ++ Wire.encs ns) := by
  unfold wire_Put.f; rw [if_pos ⟨h0, u64s_iff.2 h1, h2⟩]
theorem pputb (l b : List Int) (h : l.length + b.length + 20 < 140737488355328) : wire_PutBytes.f l b = some (l ++ recP b) := by
  have hw : IntKind.u64.wrap (b.length : Int) = (b.length : Int) := by rw [u64w]; omega
  have hes : Wire.encs [(b.length : Int)] = enc 9 b.length := by simp [Wire.encs]
  have hen := enc_len 9 b.length
  unfold wire_PutBytes.f
  rw [hw, pput l _ (by simp) (by simp; omega) (by simp only [List.length_singleton]; omega), Option.bind_some, hes, if_pos (by rw [List.length_append]; omega)]
  unfold recP
  rw [List.append_assoc]
theorem pseal (l : List Int) (hb : Bs l) (k : Nat) (hk : 90000 < k) : wire_Seal.f k l = some (sealE l) := by
  unfold sealE
  by_cases h : 8192 < l.length
  · unfold wire_Seal.f; rw [if_pos (by omega), if_pos h]
  · rw [if_neg h]
    have hr := rec_len l (by omega)
    unfold wire_Seal.f wire_four.f
    rw [if_neg (by omega), pputb [] l (by simp only [List.length_nil]; omega), List.nil_append, Option.bind_some, psum _ (rec_bs hb (by omega)) (by omega) _ (by omega), Option.bind_some, Option.bind_some, if_pos (by simp only [List.length_cons, List.length_nil]; omega)]
    rfl
theorem encs_bs {l : List Int} (h : ∀ x ∈ l, 0 ≤ x ∧ x < 18446744073709551616) : Bs (Wire.encs l) := by
  intro x hx
  obtain ⟨n, hn, hx⟩ := List.mem_flatMap.1 hx
  exact enc64_bs (by have := h n hn; omega) x hx
theorem phead (gen many : Int) (b : List Int) (hb : Bs b) (hg : 0 ≤ gen ∧ gen < 9223372036854775808) (hm : 0 ≤ many ∧ many < 9223372036854775808) (hl : b.length < 70368744177664) (k : Nat) (hk : 90000 < k) : tape_head.f k gen many b = some (headE gen many b) := by
  have e1 : IntKind.u64.wrap gen = gen := by rw [u64w]; omega
  have e2 : IntKind.u64.wrap many = many := by rw [u64w]; omega
  have hn : ∀ x ∈ [gen, many], (0 : Int) ≤ x ∧ x < 18446744073709551616 := by
    intro x hx
    rcases List.mem_cons.1 hx with rfl | hx
    · omega
    · rcases List.mem_cons.1 hx with rfl | hx
      · omega
      · cases hx
  have hen := encs_len [gen, many]
  simp only [List.length_cons, List.length_nil] at hen
  unfold tape_head.f headE
  rw [e1, e2, pput [] _ (by simp) hn (by simp only [List.length_cons, List.length_nil]; omega), Option.bind_some, List.nil_append, pputb _ _ (by omega), Option.bind_some, pseal _ ((encs_bs hn).app (rec_bs hb (by omega))) k hk, Option.bind_some]
theorem Seal_calls (A0 : Option Addr) (c0 : Nat) (l0 : List Int) (w : World) (hr0 : Kd.C (Kd.int .u8) w A0 l0.length l0) (hc0 : l0.length ≤ c0) (hb : Bs l0) :
    Calls Try.prog 61 #[.slice A0 l0.length c0] w fun e w' => ∃ v, e = .returned (.tuple #[v, .int .i64 (sealE l0).2]) ∧ Kd.R (Kd.int .u8) 5 w' w.heap.size (fun _ => True) v (sealE l0).1 ∧ Below w.heap.size w w' :=
  wire_Seal.calls 90001 A0 c0 l0 (sealE l0).1 (sealE l0).2 w hr0 hc0 (pseal l0 hb 90001 (by decide))
theorem head_calls (gen many : Int) (A0 : Option Addr) (c0 : Nat) (l0 : List Int) (w : World) (hr0 : Kd.C (Kd.int .u8) w A0 l0.length l0) (hc0 : l0.length ≤ c0) (hb : Bs l0) (hg : 0 ≤ gen ∧ gen < 9223372036854775808) (hm : 0 ≤ many ∧ many < 9223372036854775808) (hl : l0.length < 70368744177664) :
    Calls Try.prog 62 #[.int .i64 gen, .int .i64 many, .slice A0 l0.length c0] w fun e w' => ∃ v, e = .returned (.tuple #[v, .int .i64 (headE gen many l0).2]) ∧ Kd.R (Kd.int .u8) 5 w' w.heap.size (fun _ => True) v (headE gen many l0).1 ∧ Below w.heap.size w w' :=
  tape_head.calls 90001 gen many A0 c0 l0 (headE gen many l0).1 (headE gen many l0).2 w hr0 hc0 (phead gen many l0 hb hg hm hl 90001 (by decide))
end Go.Proofs.Ytehjbhnlbjbhfaa.Tp
-- TpC
namespace Go.Proofs.Ytehjbhnlbjbhfaa.Tp
open Go Go.RowKit Go.Proofs.YtehjbhnlbjbhfaaW.PrintWords Go.Proofs.YtehjbhnlbjbhfaaW.PrintLast Go.Proofs.YtehjbhnlbjbhfaaW.PrintMore Go.Proofs.Ytehjbhnlbjbhfaa.Wire Go.Proofs.Ytehjbhnlbjbhfaa.Wk Go.Proofs.Ytehjbhnlbjbhfaa.Dk
open Go.Proofs.Ytehjbhnlbjbhfaa.PTapePlays
set_option linter.unusedVariables false
def Rs (G : Nat → Prop) (W : World) (v : Value) (ls : List (List Int)) : Prop := Kd.V KdB 0 W 0 (fun b => ¬ G b) v ls
abbrev tapeCells (x : TS) (bV lV : Value) (g : Nat) : Array Value := #[.int .i64 x.r.gen, bV, lV, .pointer (some ⟨g, 0, none⟩), .int .i64 (x.file : Int), .int .i64 (x.kept : Int)]
structure IsT (G : Nat → Prop) (W : World) (t g : Nat) (x : TS) : Prop where
  gt : G t
  ex : ∃ bV lV, W.heap[t]? = some (.cells (tapeCells x bV lV g) 50 (0, 0)) ∧ Rw G .u8 W bV x.r.base ∧ Rs G W lV x.r.l
structure Ws (P : Nat → Prop) (w w' : World) : Prop where
  os : w'.os = w.os
  tape : w'.tape = w.tape
  output : w'.output = w.output
  size : w.heap.size ≤ w'.heap.size
  block : ∀ i, i < w.heap.size → ¬ P i → w'.heap[i]? = w.heap[i]?
theorem Ws.refl (P : Nat → Prop) (w : World) : Ws P w w := ⟨rfl, rfl, rfl, Nat.le_refl _, fun _ _ _ => rfl⟩
theorem Ws.trans {P : Nat → Prop} {w w1 w2 : World} (h : Ws P w w1) (k : Ws P w1 w2) : Ws P w w2 :=
  ⟨k.os.trans h.os, k.tape.trans h.tape, k.output.trans h.output, Nat.le_trans h.size k.size, fun i hi hne => (k.block i (Nat.lt_of_lt_of_le hi h.size) hne).trans (h.block i hi hne)⟩
theorem Ws.mono {P P' : Nat → Prop} {w w1 : World} (h : Ws P w w1) (hp : ∀ b, b < w.heap.size → P b → P' b) : Ws P' w w1 := ⟨h.os, h.tape, h.output, h.size, fun i hi hn => h.block i hi (fun hP => hn (hp i hi hP))⟩
theorem Ws.of_below {P : Nat → Prop} {w w1 : World} (h : Below w.heap.size w w1) : Ws P w w1 := ⟨h.os, h.tape, h.output, h.size, fun i hi _ => h.block i hi⟩
theorem Ws.of_wr {P : Nat → Prop} {g : Nat} {w w1 : World} (h : Wr g w w1) (hg : P g) : Ws P w w1 := ⟨h.os, h.tape, h.output, h.size, fun i hi hn => h.block i hi (fun e => hn (e ▸ hg))⟩
theorem Ws.of_set {P : Nat → Prop} (w : World) {t : Nat} (hP : P t) (j : Nat) (u : Value) : Ws P w (w.setCell ⟨t, j, none⟩ u) := Ws.of_wr ((Wr.refl t w).set j u) hP
theorem Ws.below {P : Nat → Prop} {w0 w w1 : World} (h : Ws P w w1) (hb : Below w0.heap.size w0 w) (hP : ∀ b, P b → w0.heap.size ≤ b) : Below w0.heap.size w0 w1 :=
  ⟨h.os.trans hb.os, h.tape.trans hb.tape, h.output.trans hb.output, Nat.le_trans hb.size h.size, fun i hi => (h.block i (Nat.lt_of_lt_of_le hi hb.size) (fun hp => by have := hP i hp; omega)).trans (hb.block i hi)⟩
theorem Ws.cell {P : Nat → Prop} {w w' : World} (h : Ws P w w') {b o : Nat} {v : Value} (hc : w.cell? ⟨b, o, none⟩ = some v) (hne : ¬ P b) : w'.cell? ⟨b, o, none⟩ = some v := by
  have := h.block b (World.block_lt_of_cell? w ⟨b, o, none⟩ hc) hne
  simpa [World.cell?, this] using hc
theorem Rw.ws {G P : Nat → Prop} {k : IntKind} {W W' : World} {v : Value} {xs : List Int} (h : Rw G k W v xs) (hw : Ws P W W') (hg : ∀ b, P b → G b) : Rw G k W' v xs := h.step (fun b hb hlt => hw.block b hlt (fun e => hb (hg b e)))
theorem Rs.nil (G : Nat → Prop) (W : World) : Rs G W (.slice none 0 0) [] := Kd.V_nil _ _ _ _ _
theorem Rs.ws {G P : Nat → Prop} {W W' : World} {v : Value} {xs : List (List Int)} (h : Rs G W v xs) (hw : Ws P W W') (hg : ∀ b, P b → G b) : Rs G W' v xs := Kd.V_step h (fun b hb hlt => hw.block b hlt (fun e => hb (hg b e)))
theorem Rs.below {G : Nat → Prop} {W W' : World} {v : Value} {xs : List (List Int)} (h : Rs G W v xs) (hw : Below W.heap.size W W') : Rs G W' v xs := Kd.V_below h hw
theorem Rs.grow {G G' : Nat → Prop} {W : World} {v : Value} {xs : List (List Int)} (h : Rs G W v xs) (hg : ∀ b, b < W.heap.size → G' b → G b) : Rs G' W v xs := Kd.V_mono (Kd.V_bound h) (fun b hb hG => hb.1 (hg b hb.2 hG))
theorem Rs.slice {G : Nat → Prop} {W : World} {v : Value} {xs : List (List Int)} (h : Rs G W v xs) : ∃ A c, v = .slice A xs.length c ∧ xs.length ≤ c ∧ Kd.C KdB W A xs.length xs := by
  obtain ⟨A, c, rfl⟩ := Kd.V_slice h
  exact ⟨A, c, rfl, (Kd.V_reads' h).2.1, (Kd.V_reads' h).2.2⟩
theorem Rs.of_R {G : Nat → Prop} {e : Nat} {W W0 : World} {v : Value} {xs : List (List Int)} (h : Kd.R KdB e W W0.heap.size (fun _ => True) v xs) (hG : ∀ b, G b → b < W0.heap.size) : Rs G W v xs :=
  show Kd.V KdB e W 0 (fun b => ¬ G b) v xs from Kd.R_V (Kd.R_mono (Kd.R_bound h) (fun b hb hg => by have := hb.2.1; have := hG b hg; omega))
theorem IsD.ws {G P : Nat → Prop} {g : Nat} {W W' : World} {s : DS} (h : IsD G W g s) (hw : Ws P W W') (hg : ∀ b, P b → G b) (hne : ¬ P g) : IsD G W' g s := by
  obtain ⟨h1, h2, d, hA, hR⟩ := h
  exact ⟨fun b hb => Nat.lt_of_lt_of_le (h1 b hb) hw.size, h2, d, hA.same (hw.block g (h1 g h2) hne), hR.1, hR.2.1, Rw.ws hR.2.2.1 hw hg, hR.2.2.2.1, hR.2.2.2.2.1, hR.2.2.2.2.2.1, fun i hi => ⟨Rw.ws (hR.2.2.2.2.2.2 i hi).1 hw hg, Rw.ws (hR.2.2.2.2.2.2 i hi).2.1 hw hg, (hR.2.2.2.2.2.2 i hi).2.2⟩⟩
theorem IsT.lt {G : Nat → Prop} {W : World} {t g : Nat} {x : TS} (h : IsT G W t g x) : t < W.heap.size := by
  obtain ⟨_, bV, lV, hb, _⟩ := h
  exact blk_lt hb
theorem IsT.ws {G P : Nat → Prop} {W W' : World} {t g : Nat} {x : TS} (h : IsT G W t g x) (hw : Ws P W W') (hg : ∀ b, P b → G b) (hne : ¬ P t) : IsT G W' t g x := by
  have hlt := h.lt
  obtain ⟨h1, bV, lV, hb, hB, hL⟩ := h
  exact ⟨h1, bV, lV, (hw.block t hlt hne).trans hb, Rw.ws hB hw hg, hL.ws hw hg⟩
theorem IsT.below {G : Nat → Prop} {W W' : World} {t g : Nat} {x : TS} (h : IsT G W t g x) (hw : Below W.heap.size W W') : IsT G W' t g x := h.ws (P := fun _ => False) (Ws.of_below hw) (fun _ h => h.elim) (fun h => h)
theorem IsT.wr {G : Nat → Prop} {W W' : World} {t g d : Nat} {x : TS} (h : IsT G W t d x) (hw : Wr g W W') (hg : G g) (hne : g ≠ t) : IsT G W' t d x := h.ws (P := fun b => b = g) (Ws.of_wr hw rfl) (fun b e => e ▸ hg) (fun e => hne e.symm)
theorem IsT.grow {G G' : Nat → Prop} {W : World} {t g : Nat} {x : TS} (h : IsT G W t g x) (hg : G' t) (hs : ∀ k, k < W.heap.size → G' k → G k) : IsT G' W t g x := by
  obtain ⟨h1, bV, lV, hb, hB, hL⟩ := h
  exact ⟨hg, bV, lV, hb, hB.grow hs, hL.grow hs⟩
theorem IsT.dr {G : Nat → Prop} {W : World} {t g : Nat} {x : TS} (h : IsT G W t g x) : IsT G W.drew t g x := h.below (below_drew1 (Below.refl _ _))
theorem IsT.drN {G : Nat → Prop} {W : World} {t g : Nat} {x : TS} (h : IsT G W t g x) (n : Nat) : IsT G (W.drewN n) t g x := h.below (pw_below_drewN (Below.refl _ _) n)
theorem IsT.al {G : Nat → Prop} {W : World} {t g : Nat} {x : TS} (h : IsT G W t g x) (o : Obj) : IsT G (W.alloc o) t g x := h.below (below_alloc (Below.refl _ _) o)
def NT (v : Value) (w : World) : Prop := v = .pointer none ∨ ∃ t, v = .pointer (some ⟨t, 0, none⟩) ∧ w.heap[t]? = some (.cells #[.int .i64 0, .slice none 0 0, .slice none 0 0, .pointer none, .int .i64 0, .int .i64 0] 50 (0, 0))
theorem NT.drewN {v : Value} {w : World} (h : NT v w) (n : Nat) : NT v (w.drewN n) := h
theorem NT.below {v : Value} {w w' : World} (h : NT v w) (hb : Below w.heap.size w w') : NT v w' := by
  rcases h with h | ⟨t, h, hg⟩
  · exact .inl h
  · exact .inr ⟨t, h, (hb.block t (blk_lt hg)).trans hg⟩
theorem dead_nt (v : Value) (w : World) (h : NT v w) : Calls Try.prog 60 #[v] w fun e w' => e = .returned (.bool true) ∧ Drawn0 w w' := by
  rcases h with rfl | ⟨g, rfl, hg⟩
  · go_enter Try.func60, Try.ntmps60
    go_wp2
    go_ret
    exact ⟨rfl, 0, rfl⟩
  · have hc_3 : w.cell? ⟨g, 3, none⟩ = some (.pointer none) := (blk_cell hg 3).trans rfl
    clear hg
    go_enter Try.func60, Try.ntmps60
    go_wp2
    go_ret
    exact ⟨rfl, 0, rfl⟩
theorem dead_calls (G : Nat → Prop) (t g : Nat) (x : TS) (w : World) (h : IsT G w t g x) : Calls Try.prog 60 #[.pointer (some ⟨t, 0, none⟩)] w fun e w' => e = .returned (.bool false) ∧ Drawn0 w w' := by
  obtain ⟨_, bV, lV, hb, _⟩ := h
  have hc_3 : w.cell? ⟨t, 3, none⟩ = some (.pointer (some ⟨g, 0, none⟩)) := (blk_cell hb 3).trans rfl
  clear hb
  go_enter Try.func60, Try.ntmps60
  go_wp2
  go_ret
  exact ⟨rfl, 0, rfl⟩
theorem Len_nt (v : Value) (w : World) (h : NT v w) : Calls Try.prog 27 #[v] w fun e w' => e = .returned (.int .i64 0) ∧ Drawn0 w w' := by
  have H := Aside0.mk h
  clear h
  go_enter Try.func27, Try.ntmps27
  go_wp2_with (fail)
  refine (dead_nt v _ H.out).mono ?_
  rintro e w1 ⟨rfl, ⟨n0, rfl⟩⟩
  go_wp2
  go_ret
  exact ⟨rfl, n0, rfl⟩
theorem Kept_nt (v : Value) (w : World) (h : NT v w) : Calls Try.prog 28 #[v] w fun e w' => e = .returned (.int .i64 0) ∧ Drawn0 w w' := by
  have H := Aside0.mk h
  clear h
  go_enter Try.func28, Try.ntmps28
  go_wp2_with (fail)
  refine (dead_nt v _ H.out).mono ?_
  rintro e w1 ⟨rfl, ⟨n0, rfl⟩⟩
  go_wp2
  go_ret
  exact ⟨rfl, n0, rfl⟩
theorem Base_nt (v : Value) (w : World) (h : NT v w) : Calls Try.prog 29 #[v] w fun e w' => e = .returned (.slice none 0 0) ∧ Drawn0 w w' := by
  have H := Aside0.mk h
  clear h
  go_enter Try.func29, Try.ntmps29
  go_wp2_with (fail)
  refine (dead_nt v _ H.out).mono ?_
  rintro e w1 ⟨rfl, ⟨n0, rfl⟩⟩
  go_wp2
  go_ret
  exact ⟨rfl, n0, rfl⟩
theorem At_nt (v : Value) (i : Int) (w : World) (h : NT v w) : Calls Try.prog 23 #[v, .int .i64 i] w fun e w' => e = .returned (.tuple #[.slice none 0 0, .bool false]) ∧ Drawn0 w w' := by
  have H := Aside0.mk h
  clear h
  go_enter Try.func23, Try.ntmps23
  go_wp2_with (fail)
  refine (dead_nt v _ H.out).mono ?_
  rintro e w1 ⟨rfl, ⟨n0, rfl⟩⟩
  go_wp2
  go_ret2
  exact ⟨rfl, n0, rfl⟩
theorem Put_nt (v b : Value) (w : World) (h : NT v w) : Calls Try.prog 24 #[v, b] w fun e w' => e = .returned (.int .i64 6) ∧ Drawn0 w w' := by
  have H := Aside0.mk h
  clear h
  go_enter Try.func24, Try.ntmps24
  go_wp2_with (fail)
  refine (dead_nt v _ H.out).mono ?_
  rintro e w1 ⟨rfl, ⟨n0, rfl⟩⟩
  go_wp2
  go_ret
  exact ⟨rfl, n0, rfl⟩
theorem Sync_nt (v : Value) (w : World) (h : NT v w) : Calls Try.prog 25 #[v] w fun e w' => e = .returned (.int .i64 6) ∧ Drawn0 w w' := by
  have H := Aside0.mk h
  clear h
  go_enter Try.func25, Try.ntmps25
  go_wp2_with (fail)
  refine (dead_nt v _ H.out).mono ?_
  rintro e w1 ⟨rfl, ⟨n0, rfl⟩⟩
  go_wp2
  go_ret
  exact ⟨rfl, n0, rfl⟩
theorem Save_nt (v b l : Value) (w : World) (h : NT v w) : Calls Try.prog 26 #[v, b, l] w fun e w' => e = .returned (.int .i64 6) ∧ Drawn0 w w' := by
  have H := Aside0.mk h
  clear h
  go_enter Try.func26, Try.ntmps26
  go_wp2_with (fail)
  refine (dead_nt v _ H.out).mono ?_
  rintro e w1 ⟨rfl, ⟨n0, rfl⟩⟩
  go_wp2
  go_ret
  exact ⟨rfl, n0, rfl⟩
theorem Len_calls (G : Nat → Prop) (t g : Nat) (x : TS) (w : World) (h : IsT G w t g x) : Calls Try.prog 27 #[.pointer (some ⟨t, 0, none⟩)] w fun e w' => e = .returned (.int .i64 (x.r.l.length : Int)) ∧ Drawn0 w w' := by
  have HD := Aside0.mk (dead_calls G t g x w h)
  obtain ⟨_, bV, lV, hb, hB, hL⟩ := h
  obtain ⟨A, c, rfl, _⟩ := hL.slice
  have hc_2 : w.cell? ⟨t, 2, none⟩ = some (.slice A x.r.l.length c) := (blk_cell hb 2).trans rfl
  clear hb hB hL
  go_enter Try.func27, Try.ntmps27
  go_wp2_with (fail)
  refine HD.out.mono ?_
  rintro e w1 ⟨rfl, ⟨n0, rfl⟩⟩
  go_wp2
  go_ret
  exact ⟨rfl, n0, rfl⟩
theorem Kept_calls (G : Nat → Prop) (t g : Nat) (x : TS) (w : World) (h : IsT G w t g x) : Calls Try.prog 28 #[.pointer (some ⟨t, 0, none⟩)] w fun e w' => e = .returned (.int .i64 (x.kept : Int)) ∧ Drawn0 w w' := by
  have HD := Aside0.mk (dead_calls G t g x w h)
  obtain ⟨_, bV, lV, hb, hB, hL⟩ := h
  have hc_5 : w.cell? ⟨t, 5, none⟩ = some (.int .i64 (x.kept : Int)) := (blk_cell hb 5).trans rfl
  clear hb hB hL
  go_enter Try.func28, Try.ntmps28
  go_wp2_with (fail)
  refine HD.out.mono ?_
  rintro e w1 ⟨rfl, ⟨n0, rfl⟩⟩
  go_wp2
  go_ret
  exact ⟨rfl, n0, rfl⟩
theorem Base_calls (G : Nat → Prop) (t g : Nat) (x : TS) (w : World) (h : IsT G w t g x) (hl : x.r.base.length < 1000000000) : Calls Try.prog 29 #[.pointer (some ⟨t, 0, none⟩)] w fun e w' => ∃ v, e = .returned v ∧ Kd.R (Kd.int .u8) 5 w' w.heap.size (fun _ => True) v x.r.base ∧ Below w.heap.size w w' := by
  have HD := Aside0.mk (dead_calls G t g x w h)
  have HL := Aside0.mk hl
  obtain ⟨_, bV, lV, hb, hB, hL⟩ := h
  obtain ⟨A, c, rfl, hcc, hC⟩ := hB.slice
  have hc_1 : w.cell? ⟨t, 1, none⟩ = some (.slice A x.r.base.length c) := (blk_cell hb 1).trans rfl
  have HC := Aside0.mk (And.intro hcc hC)
  clear hb hB hL hcc hC hl
  go_enter Try.func29, Try.ntmps29
  go_wp2_with (fail)
  refine HD.out.mono ?_
  rintro e w1 ⟨rfl, ⟨n0, rfl⟩⟩
  go_wp2_with (fail)
  refine (Clone_b A c _ _ (Kd.C_drewN HC.out.2 n0) HC.out.1 (by have := HL.out; omega)).mono ?_
  rintro e w2 ⟨v, rfl, hR2, hB2⟩
  have HR2 := Aside0.mk hR2
  have HB2 := Aside0.mk hB2
  clear hR2 hB2
  go_wp2
  go_ret
  exact ⟨_, rfl, Kd.R_lower HR2.out (Nat.le_refl _), below_step (pw_below_drewN (Below.refl _ _) n0) HB2.out⟩
set_option maxRecDepth 100000 in
theorem At_calls (G : Nat → Prop) (t g : Nat) (x : TS) (i : Nat) (w : World) (h : IsT G w t g x) (hi : i < x.r.l.length) (hn : x.r.l.length < 1000000000) (hl : (x.r.l.getD i []).length < 1000000000) : Calls Try.prog 23 #[.pointer (some ⟨t, 0, none⟩), .int .i64 (i : Int)] w fun e w' => ∃ v, e = .returned (.tuple #[v, .bool true]) ∧ Kd.R (Kd.int .u8) 5 w' w.heap.size (fun _ => True) v (x.r.l.getD i []) ∧ Below w.heap.size w w' := by
  have HD := Aside0.mk (dead_calls G t g x w h)
  have HL := Aside0.mk hl
  have HN := Aside0.mk hn
  obtain ⟨_, bV, lV, hb, hB, hL⟩ := h
  obtain ⟨A, c, rfl, hcc, hC⟩ := hL.slice
  have hc_2 : w.cell? ⟨t, 2, none⟩ = some (.slice A x.r.l.length c) := (blk_cell hb 2).trans rfl
  obtain ⟨ad, A1, c1, rfl, hcc1, hC1, hel⟩ := bb_get hC i hi
  generalize x.r.l.getD i [] = D at *
  have HC := Aside0.mk (And.intro hcc1 hC1)
  have h0 : (0 : Int) ≤ (i : Int) := by omega
  have h1 : (i : Int) < (x.r.l.length : Int) := by omega
  have d0 : decide ((i : Int) < 0) = false := decide_eq_false (by omega)
  have d1 : decide ((i : Int) ≥ (x.r.l.length : Int)) = false := decide_eq_false (by omega)
  have hel2 : w.cell? (ad.add ((i : Int).toNat * 1)) = some (.slice A1 D.length c1) := by rw [Int.toNat_natCast, Nat.mul_one]; exact hel
  clear hb hB hL hcc hC hl hn hcc1 hC1
  go_enter Try.func23, Try.ntmps23
  go_wp2_with (fail)
  refine HD.out.mono ?_
  rintro e w1 ⟨rfl, ⟨n0, rfl⟩⟩
  go_wp2_with (fail)
  refine (Clone_b A1 c1 _ _ (Kd.C_drewN HC.out.2 n0) HC.out.1 (by have := HL.out; omega)).mono ?_
  rintro e w2 ⟨v, rfl, hR2, hB2⟩
  have HR2 := Aside0.mk hR2
  have HB2 := Aside0.mk hB2
  clear hR2 hB2
  go_wp2
  go_ret2
  exact ⟨_, rfl, Kd.R_lower HR2.out (Nat.le_refl _), below_step (pw_below_drewN (Below.refl _ _) n0) HB2.out⟩
end Go.Proofs.Ytehjbhnlbjbhfaa.Tp
-- TpD
namespace Go.Proofs.Ytehjbhnlbjbhfaa.Tp
open Go Go.RowKit Go.Proofs.YtehjbhnlbjbhfaaW.PrintWords Go.Proofs.YtehjbhnlbjbhfaaW.PrintLast Go.Proofs.YtehjbhnlbjbhfaaW.PrintMore Go.Proofs.Ytehjbhnlbjbhfaa.Wire Go.Proofs.Ytehjbhnlbjbhfaa.Wk Go.Proofs.Ytehjbhnlbjbhfaa.Dk
set_option linter.unusedVariables false
theorem flat1 : ∀ (rows : List (List Value)), (∀ c ∈ rows, c.length = 1) → rows.flatten.length = rows.length ∧ (∀ (j : Nat) (c : List Value), rows[j]? = some c → (rows.flatten.drop j).take 1 = c) ∧ ∀ (j : Nat) (u : Value), rows.flatten[j]? = some u → rows[j]? = some [u] := by
  intro rows
  induction rows with
  | nil => intro _; exact ⟨rfl, fun j c h => by simp at h, fun j u h => by simp at h⟩
  | cons r rs ih =>
    intro h
    obtain ⟨h1, h2, h3⟩ := ih (fun c hc => h c (List.mem_cons_of_mem _ hc))
    obtain ⟨x, rfl⟩ : ∃ x, r = [x] := by
      have := h r (List.mem_cons_self ..)
      match r, this with
      | [x], _ => exact ⟨x, rfl⟩
    refine ⟨by simp [h1], ?_, ?_⟩
    · rintro (_ | j) c hj
      · simp at hj; subst hj; simp
      · simp at hj; simpa using h2 j c hj
    · rintro (_ | j) u hj
      · simp at hj; subst hj; simp
      · simp at hj; simpa using h3 j u hj
section
variable {ops : Array Oper} {o : Oper} {a : Act} {Q : Exit → Act → World → Prop} {K : Act → World → Prop}
theorem V_append_step {G : Nat → Prop} {W : World} (hw : Region.wanted o (yielded ops a.tmps) = true) (s x : Operand)
    (ho : o.op = .call { callee := .builtin .append, args := #[s, x], argTypes := #[46, 46] }) (A : Option Addr) (c : Nat) (ls : List (List Int)) (dv : Value) (d : List Int)
    (hs : a.eval s = .slice A ls.length ls.length) (hx : a.eval x = .slice (some ⟨W.heap.size, 0, none⟩) 1 1)
    (HL : Rs G W (.slice A ls.length c) ls) (HD : Rw G .u8 W dv d) (hG : ∀ b, G b → b < W.heap.size) (hl : ls.length < 1000000000)
    (h : ∀ v1 w1, Rs G w1 v1 (ls ++ [d]) → Below W.heap.size W w1 → K (a.put o.dst v1) w1) :
    if Region.wanted o (yielded ops a.tmps) = true then Oper.wp Try.prog o a (W.alloc (.cells #[dv] 32)) K Q else K (a.put o.dst undef) (W.alloc (.cells #[dv] 32)) := by
  obtain ⟨i0, hi, hz0, hz1, hz2⟩ := info_parts Wk.info32
  rw [if_pos hw]
  have hsz : (W.alloc (.cells #[dv] 32)).heap.size = W.heap.size + 1 := by simp
  obtain ⟨rows, hrl, hrr, hrf⟩ := Kd.reads_raw (Kd.F_rows (Kd.V_F HL)) (fun y c hk => ⟨KdB.K_len (Kd.FK_now hk), KdB.K_one (Kd.FK_now hk)⟩)
  obtain ⟨Ad, cd, rfl, hcd, _⟩ := Rw.slice HD
  have hFD : Kd.FK KdB W (fun b => ¬ G b) d [.slice Ad d.length cd] := Kd.FK_slice_mk hcd (Kd.V_F HD)
  have hlen1 : ∀ c ∈ rows, c.length = 1 := by
    intro c hc
    obtain ⟨j, hj, e⟩ := List.getElem_of_mem hc
    have := hrf j _ c (List.getElem?_eq_getElem (by omega)) (by rw [List.getElem?_eq_getElem hj, e])
    exact KdB.K_len (Kd.FK_now this)
  obtain ⟨f1, f2, f3⟩ := flat1 rows hlen1
  have hold : ∀ b, A = some b → ∀ j u, rows.flatten[j]? = some u → (W.alloc (.cells #[.slice Ad d.length cd] 32)).cell? (b.add j) = some u := by
    intro b e j u hj
    subst e
    have hjl : j < ls.length := by have := (List.getElem?_eq_some_iff.1 hj).1; omega
    obtain ⟨ad', c', e', hcl, hK, hcc, _⟩ := Kd.F_get (Kd.V_F HL) [] (j : Int) (by omega) (by omega)
    cases e'
    rw [Int.toNat_natCast, show j * KdB.sz = j from Nat.mul_one j] at hcc
    have h1 := hrr.2.2 (by omega)
    obtain ⟨ad2, e2, h1⟩ := h1
    cases e2
    obtain ⟨c2, hc2l, hc2, hc2c⟩ := h1 j [u] (f3 j u hj)
    have h3 := hc2c 0 u (by rw [hc2.1]; rfl)
    rw [show j * KdB.sz + 0 = j by show j * 1 + 0 = j; omega] at h3
    exact (World.cell?_alloc_lt _ _ _ (World.block_lt_of_cell? W _ h3)).trans h3
  have hnew : ∀ j u, [Value.slice Ad d.length cd][j]? = some u → (W.alloc (.cells #[.slice Ad d.length cd] 32)).cell? ((⟨W.heap.size, 0, none⟩ : Addr).add j) = some u := by
    intro j u hj
    have : j = 0 := by have := (List.getElem?_eq_some_iff.1 hj).1; simp at this; omega
    subst this
    simp at hj
    subst hj
    rw [add_plain]
    simp
  have fin : ∀ v1 w1, w1.ownsRow (W.alloc (.cells #[.slice Ad d.length cd] 32)).heap.size 32 1 v1 (ls.length + 1) (rows.flatten ++ [Value.slice Ad d.length cd]) → (W.alloc (.cells #[.slice Ad d.length cd] 32)).grownBy w1 none → K (a.put o.dst v1) w1 := by
    intro v1 w1 hown hg
    have hgW : W.grownBy w1 none := World.grownBy.trans (World.grownBy_alloc W _ _) hg
    have hB : Below W.heap.size W w1 := ((Below.refl W.heap.size W).alloc (Nat.le_refl _) _).grown hg (by omega) (fun k hk => by cases hk)
    refine h v1 w1 ?_ hB
    have hbase : ∀ k, v1.ownBlock = some k → W.heap.size + 1 ≤ k := fun k hk => by have := own_base hown k hk; omega
    have hN : Kd.N KdB 32 w1 (W.heap.size + 1) (fun b => ¬ G b) v1 (ls ++ [d]) := by
      refine ⟨fun k hk hGk => by have := hbase k hk; have := hG k hGk; omega, rows ++ [[.slice Ad d.length cd]], by simp [hrl], ?_, ?_⟩
      · refine ⟨fun k hk => hk.symm, rows.flatten ++ [.slice Ad d.length cd], by rw [List.length_append, hrl]; rw [hsz] at hown; exact hown, ?_⟩
        refine ⟨by show (rows.flatten ++ [Value.slice Ad d.length cd]).length = (rows ++ [[Value.slice Ad d.length cd]]).length * 1; simp [f1], fun j p hj => ?_⟩
        show ((rows.flatten ++ [Value.slice Ad d.length cd]).drop (j * 1)).take 1 = p ∧ (((rows.flatten ++ [Value.slice Ad d.length cd]).drop (j * 1)).take 1).length = 1 ∧ ∀ u ∈ ((rows.flatten ++ [Value.slice Ad d.length cd]).drop (j * 1)).take 1, u.oneCell' = true
        obtain ⟨g1, g2, g3⟩ := flat1 (rows ++ [[.slice Ad d.length cd]]) (by
          intro c hc
          rcases List.mem_append.1 hc with hc | hc
          · exact hlen1 c hc
          · simp at hc; subst hc; rfl)
        have e := g2 j p hj
        rw [List.flatten_append] at e
        have hp1 : p.length = 1 := by
          have hm := List.mem_of_getElem? hj
          rcases List.mem_append.1 hm with hc | hc
          · exact hlen1 p hc
          · simp at hc; subst hc; rfl
        have hp2 : ∀ u ∈ p, u.oneCell' = true := by
          rcases Nat.lt_or_ge j rows.length with hlt | hge
          · rw [List.getElem?_append_left hlt] at hj
            exact KdB.K_one (Kd.FK_now (hrf j _ p (List.getElem?_eq_getElem (by omega)) hj))
          · rw [List.getElem?_append_right hge] at hj
            have : j - rows.length = 0 := by have := (List.getElem?_eq_some_iff.1 hj).1; simp at this; omega
            rw [this] at hj
            simp at hj
            subst hj
            exact KdB.K_one (Kd.FK_now hFD)
        exact ⟨by rw [Nat.mul_one]; simpa using e, by rw [Nat.mul_one]; rw [show (rows.flatten ++ [Value.slice Ad d.length cd]) = (rows.flatten ++ [[Value.slice Ad d.length cd]].flatten) by simp, e]; exact hp1, by rw [Nat.mul_one, show (rows.flatten ++ [Value.slice Ad d.length cd]) = (rows.flatten ++ [[Value.slice Ad d.length cd]].flatten) by simp, e]; exact hp2⟩
      · intro j y cs hy hcs
        have step : ∀ {y : List Int} {cs : List Value}, Kd.FK KdB W (fun b => ¬ G b) y cs → Kd.FK KdB w1 (fun k => ¬ G k ∧ some k ≠ v1.ownBlock) y cs := by
          intro y cs hq
          exact Kd.FK_mono (Kd.FK_step (Kd.FK_bound hq) (fun k hk hlt => hgW.block k hlt (by simp))) (fun k hk => ⟨hk.1, fun he => by have := hbase k he.symm; have := hk.2; omega⟩)
        rcases Nat.lt_or_ge j ls.length with hlt | hge
        · rw [List.getElem?_append_left hlt] at hy
          rw [List.getElem?_append_left (by omega)] at hcs
          exact step (hrf j y cs hy hcs)
        · rw [List.getElem?_append_right hge] at hy
          rw [List.getElem?_append_right (by omega), hrl] at hcs
          have : j - ls.length = 0 := by have := (List.getElem?_eq_some_iff.1 hy).1; simp at this; omega
          rw [this] at hy hcs
          simp at hy hcs
          subst hy hcs
          exact step hFD
    show Kd.V KdB 32 w1 0 (fun b => ¬ G b) v1 (ls ++ [d])
    exact Kd.N_V hN
  have holdl : rows.flatten.length = ls.length * 1 := by omega
  cases A with
  | some b =>
    obtain ⟨v', w', hrun, r1, r2⟩ := run_append_arg_grows (P := Try.prog) (w := W.alloc (.cells #[.slice Ad d.length cd] 32)) 46 o.type 32 i0 (.slice none 0 0) 1 24 Try.underlying46 hi hz0 hz1 hz2 rfl (by decide) b ls.length ls.length rows.flatten holdl (hold b rfl) ⟨W.heap.size, 0, none⟩ 1 1 [.slice Ad d.length cd] rfl hnew (by omega) (by unfold maxLen; omega) (by omega)
    unfold Oper.wp execOp
    simp only [ho, resolve, invoke, builtin, Sem.run_bind, Sem.run_pure, Result.andThen_ok, List.map_toArray, List.map_cons, List.map_nil, hs, hx, hrun]
    exact fin _ _ r1 r2
  | none =>
    have hle : ls = [] := by
      cases ls with
      | nil => rfl
      | cons y ys => obtain ⟨ad', c', e', _⟩ := Kd.F_get (Kd.V_F HL) [] (0 : Int) (by omega) (by simp); cases e'
    subst hle
    have hr0 : rows = [] := List.eq_nil_of_length_eq_zero hrl
    subst hr0
    obtain ⟨v', w', hrun, r1, r2, _⟩ := run_append_own (P := Try.prog) (W.alloc (.cells #[.slice Ad d.length cd] 32)) (W.alloc (.cells #[.slice Ad d.length cd] 32)).heap.size 46 o.type 32 i0 (.slice none 0 0) 1 24 Try.underlying46 hi hz0 hz1 hz2 rfl (by decide) (.slice none 0 0) 0 [] (World.ownsRow_nil _ _ 32 1) ⟨W.heap.size, 0, none⟩ 1 1 [.slice Ad d.length cd] rfl hnew (by simp [Value.oneCell']) (by unfold maxLen; omega) (by omega) (Nat.le_refl _)
    unfold Oper.wp execOp
    simp only [ho, resolve, invoke, builtin, Sem.run_bind, Sem.run_pure, Result.andThen_ok, List.map_toArray, List.map_cons, List.map_nil, hs, hx]
    simp only [List.length_nil] at hrun ⊢
    rw [hrun]
    exact fin _ _ r1 r2
end
end Go.Proofs.Ytehjbhnlbjbhfaa.Tp
-- TpE
namespace Go.Proofs.Ytehjbhnlbjbhfaa.Tp
open Go Go.RowKit Go.Proofs.YtehjbhnlbjbhfaaW.PrintWords Go.Proofs.YtehjbhnlbjbhfaaW.PrintLast Go.Proofs.YtehjbhnlbjbhfaaW.PrintMore Go.Proofs.Ytehjbhnlbjbhfaa.Wire Go.Proofs.Ytehjbhnlbjbhfaa.Wk Go.Proofs.Ytehjbhnlbjbhfaa.Dk
set_option linter.unusedVariables false
set_option linter.unusedSimpArgs false
theorem IsT.ne {G : Nat → Prop} {W : World} {t g : Nat} {x : TS} {s : DS} (h : IsT G W t g x) (k : IsD G W g s) : t ≠ g := by
  intro e
  subst e
  obtain ⟨_, bV, lV, hb, _⟩ := h
  obtain ⟨_, _, d, hA, _⟩ := k
  have := hA.2
  rw [hb] at this
  injection this with this
  injection this with _ this _
  exact absurd this (by decide)
abbrev TG (t g : Nat) : Nat → Prop := fun b => b = t ∨ b = g
theorem TG.sub {G : Nat → Prop} {W : World} {t g : Nat} {x : TS} {s : DS} (h : IsT G W t g x) (k : IsD G W g s) : ∀ b, TG t g b → G b := fun b hb => hb.elim (fun e => e ▸ h.gt) (fun e => e ▸ k.gg)
theorem IsT.put {G : Nat → Prop} {W : World} {t g : Nat} {x y : TS} {bV lV bV' lV' : Value} (h : W.heap[t]? = some (.cells (tapeCells x bV lV g) 50 (0, 0))) (hG : G t) (i : Nat) (u : Value) (e : (tapeCells x bV lV g).setIfInBounds i u = tapeCells y bV' lV' g) (hB : Rw G .u8 W bV' y.r.base) (hL : Rs G W lV' y.r.l) : IsT G (W.setCell ⟨t, i, none⟩ u) t g y :=
  ⟨hG, bV', lV', blk_put h i u e, Rw.ws hB (Ws.of_set W (P := fun b => b = t) rfl i u) (fun b e => e ▸ hG), hL.ws (Ws.of_set W (P := fun b => b = t) rfl i u) (fun b e => e ▸ hG)⟩
set_option maxHeartbeats 8000000 in
set_option maxRecDepth 100000 in
theorem TSync_calls (G : Nat → Prop) (t g : Nat) (x : TS) (s : DS) (w : World) (hT : IsT G w t g x) (hD : IsD G w g s) (hok : Okk s) :
    Calls Try.prog 25 #[.pointer (some ⟨t, 0, none⟩)] w fun e w' => e = .returned (.int .i64 (syncT x s).2.2) ∧ IsT G w' t g (syncT x s).1 ∧ IsD G w' g (syncT x s).2.1 ∧ Ws (TG t g) w w' := by
  have HNE := Aside0.mk (hT.ne hD)
  have HDE := Aside0.mk (dead_calls G t g x w hT)
  have HOK := Aside0.mk hok
  have HT := Aside0.mk hT
  have HD := Aside0.mk hD
  obtain ⟨s2, e2, hsy⟩ : ∃ s2 e2, syncP s (x.file : Int) = (s2, e2) := ⟨_, _, rfl⟩
  have HSY := Aside0.mk hsy
  obtain ⟨r, hr⟩ : ∃ r, syncT x s = r := ⟨_, rfl⟩
  rw [hr]
  have HR := Aside0.mk hr
  clear hr hsy hT hD hok
  go_enter Try.func25, Try.ntmps25
  go_wp2_with (fail)
  refine HDE.out.mono ?_
  rintro e w1 ⟨rfl, ⟨n0, rfl⟩⟩
  go_wp2
  refine with_w (fun w' => IsT G w' t g x ∧ IsD G w' g s ∧ Below w.heap.size w w') ⟨HT.out.drN n0, HD.out.drN n0, pw_below_drewN (Below.refl _ _) n0⟩ ?_
  clear HT HD HDE
  rintro wr ⟨hT, hD, hB⟩
  have HT := Aside0.mk hT
  have HD3 := Aside0.mk hD
  have HB := Aside0.mk hB
  obtain ⟨hgt, bV, lV, hb, hBr, hLr⟩ := hT
  obtain ⟨A, c, rfl, hcl, _⟩ := hLr.slice
  have hq3 : wr.cell? ⟨t, 3, none⟩ = some (.pointer (some ⟨g, 0, none⟩)) := (blk_cell hb 3).trans rfl
  have hq4 : wr.cell? ⟨t, 4, none⟩ = some (.int .i64 (x.file : Int)) := (blk_cell hb 4).trans rfl
  have HBL := Aside0.mk hb
  have HRS := Aside0.mk (And.intro hBr hLr)
  clear hD hB hb hBr hLr hcl
  refine start_ (n := 10) (S := fun w' => w'.cell? ⟨t, 3, none⟩ = some (.pointer (some ⟨g, 0, none⟩)) ∧ w'.cell? ⟨t, 4, none⟩ = some (.int .i64 (x.file : Int))) (ds := []) #[false, false, false, false, false, false, false, false, false, false] (by kernel_rfl) rfl rfl ⟨hq3, hq4⟩ (fun hHeld => ?_)
  refine pure_ (i := 0) (N := some 6) (v := ?_) (a' := ?_) #[true, false, false, false, false, false, false, false, false, false] rfl rfl (by kernel_rfl) (fun _ _ _ h => h) (Or.inl ⟨by rfl, ?_⟩) ?_ ?_
  rotate_left
  · intro w'
    go_simp
    with_reducible rfl
  rotate_left
  · simp only [Act.put, List.setIfInBounds_toArray, List.set_cons_zero, List.set_cons_succ, i64_w, i32_w]
    rfl
  refine pure_ (i := 1) (N := some 7) (v := ?_) (a' := ?_) #[true, true, false, false, false, false, false, false, false, false] rfl rfl (by kernel_rfl) (fun _ _ _ h => h) (Or.inl ⟨by rfl, ?_⟩) ?_ ?_
  rotate_left
  · intro w'
    go_simp
    with_reducible rfl
  rotate_left
  · simp only [Act.put, List.setIfInBounds_toArray, List.set_cons_zero, List.set_cons_succ, i64_w, i32_w]
    rfl
  refine pure_ (i := 2) (N := some 8) (v := ?_) (a' := ?_) #[true, true, true, false, false, false, false, false, false, false] rfl rfl (by kernel_rfl) (fun _ _ _ h => h) (Or.inl ⟨by rfl, ?_⟩) ?_ ?_
  rotate_left
  · intro w'
    go_simp
    with_reducible rfl
  rotate_left
  · simp only [Act.put, List.setIfInBounds_toArray, List.set_cons_zero, List.set_cons_succ, i64_w, i32_w]
    rfl
  refine pure_ (i := 4) (N := some 10) (v := ?_) (a' := ?_) #[true, true, true, false, true, false, false, false, false, false] rfl rfl (by kernel_rfl) (fun _ _ _ h => h) (Or.inl ⟨by rfl, ?_⟩) ?_ ?_
  rotate_left
  · intro w'
    go_simp
    with_reducible rfl
  rotate_left
  · simp only [Act.put, List.setIfInBounds_toArray, List.set_cons_zero, List.set_cons_succ, i64_w, i32_w]
    rfl
  refine pure_ (i := 5) (N := some 11) (v := ?_) (a' := ?_) #[true, true, true, false, true, true, false, false, false, false] rfl rfl (by kernel_rfl) (fun _ _ _ h => h) (Or.inl ⟨by rfl, ?_⟩) ?_ ?_
  rotate_left
  · intro w'
    go_simp
    with_reducible rfl
  rotate_left
  · simp only [Act.put, List.setIfInBounds_toArray, List.set_cons_zero, List.set_cons_succ, i64_w, i32_w]
    rfl
  refine pure_ (i := 6) (N := some 12) (v := ?_) (a' := ?_) #[true, true, true, false, true, true, true, false, false, false] rfl rfl (by kernel_rfl) (fun _ _ _ h => h) (Or.inl ⟨by rfl, ?_⟩) ?_ ?_
  rotate_left
  · intro w'
    go_simp
    with_reducible rfl
  rotate_left
  · simp only [Act.put, List.setIfInBounds_toArray, List.set_cons_zero, List.set_cons_succ, i64_w, i32_w]
    rfl
  refine take_ (i := 3) (N := some 9) (v := ?_) (a' := ?_) #[true, true, true, true, true, true, true, false, false, false] rfl rfl (by kernel_rfl) (fun _ _ _ h => h) (Or.inl ⟨by rfl, ?_⟩) hHeld ?_ ?_
  rotate_left
  · rintro w' ⟨s0, s1⟩
    go_simp
    with_reducible rfl
  rotate_left
  · simp only [Act.put, List.setIfInBounds_toArray, List.set_cons_zero, List.set_cons_succ, i64_w, i32_w]
    rfl
  refine take_ (i := 7) (N := some 13) (v := ?_) (a' := ?_) #[true, true, true, true, true, true, true, true, false, false] rfl rfl (by kernel_rfl) (fun _ _ _ h => h) (Or.inl ⟨by rfl, ?_⟩) hHeld ?_ ?_
  rotate_left
  · rintro w' ⟨s0, s1⟩
    go_simp
    with_reducible rfl
  rotate_left
  · simp only [Act.put, List.setIfInBounds_toArray, List.set_cons_zero, List.set_cons_succ, i64_w, i32_w]
    rfl
  refine one_ (i := 8) (N := some 14) #[true, true, true, true, true, true, true, true, true, false] rfl rfl (by kernel_rfl) (by decide) (fun K hK => ?_)
  refine goes_ Try.func54 (by kernel_rfl) rfl #[.pointer (some ⟨g, 0, none⟩), .int .i64 (x.file : Int)] (by rfl) rfl rfl (by first | rfl | (simp; done) | (simp only [List.map_toArray, List.map_cons, List.map_nil]; rfl)) ?_
  with_reducible refine (Sync_calls G g s (x.file : Int) _ (by repeat (first | exact HD3.out | (with_reducible refine IsD.dr ?_) | (with_reducible refine IsD.drN ?_ _))) HOK.out).mono ?_
  rw [HSY.out]
  rintro e w3 ⟨rfl, hI, hW⟩
  refine ⟨_, rfl, ?_⟩
  refine hK.out _ _ ⟨hW.cell hHeld.1 HNE.out, hW.cell hHeld.2 HNE.out⟩ (fun hHeld => ?_)
  clear hK K
  refine norm_ (a' := ?_) ?_ ?_
  rotate_left
  · show Act.put _ (some 14) _ = _
    simp only [Act.put, List.setIfInBounds_toArray, List.set_cons_zero, List.set_cons_succ, i64_w, i32_w]
    rfl
  refine pure_ (i := 9) (N := some 3) (v := ?_) (a' := ?_) #[true, true, true, true, true, true, true, true, true, true] rfl rfl (by kernel_rfl) (fun _ _ _ h => h) (Or.inl ⟨by rfl, ?_⟩) ?_ ?_
  rotate_left
  · intro w'
    go_simp
    with_reducible rfl
  rotate_left
  · simp only [Act.put, List.setIfInBounds_toArray, List.set_cons_zero, List.set_cons_succ, i64_w, i32_w]
    rfl
  refine done_ (by kernel_rfl) ?_
  have hwr : Wr g wr w3 := (Wr.of_below (below_drew1 (Below.refl _ _))).trans hW
  have HW3 := Aside0.mk hwr
  have HI := Aside0.mk hI
  have hb3 : w3.heap[t]? = some (.cells (tapeCells x bV (.slice A x.r.l.length c) g) 50 (0, 0)) := (hwr.block t (blk_lt HBL.out) HNE.out).trans HBL.out
  have HB3 := Aside0.mk hb3
  have hc2 : w3.cell? ⟨t, 2, none⟩ = some (.slice A x.r.l.length c) := (blk_cell hb3 2).trans rfl
  have hc5 : w3.cell? ⟨t, 5, none⟩ = some (.int .i64 (x.kept : Int)) := (blk_cell hb3 5).trans rfl
  have hf5 := blk_frozen hb3 5
  clear hI hW hwr hb3 hq3 hq4
  by_cases ce : e2 = 0
  · subst ce
    go_wp2
    go_ret
    rw [← HR.out]
    unfold syncT
    rw [HSY.out]
    rw [if_neg (fun h => h rfl)]
    have hws : Ws (TG t g) w w3 := (Ws.of_below HB.out).trans (Ws.of_wr HW3.out (.inr rfl))
    have hs := Ws.of_set w3 (P := TG t g) (.inl rfl) 5 (.int .i64 (x.r.l.length : Int))
    refine ⟨rfl, ?_, ?_, hws.trans hs⟩
    · exact IsT.put HB3.out hgt 5 _ rfl (Rw.wr HRS.out.1 HW3.out HI.out.gg) (HRS.out.2.ws (Ws.of_wr HW3.out (P := fun b => b = g) rfl) (fun b e => e ▸ HI.out.gg))
    · exact IsD.other HI.out (Wr.set (Wr.refl t w3) 5 _) hgt (Ne.symm HNE.out)
  · have d1 : (e2 != (0 : Int)) = true := by simpa using ce
    have d2 : (e2 == (0 : Int)) = false := by simpa using ce
    have HCE := Aside0.mk ce
    clear ce
    go_wp2
    go_ret
    rw [← HR.out]
    unfold syncT
    rw [HSY.out]
    rw [if_pos HCE.out]
    exact ⟨rfl, HT.out.wr HW3.out HI.out.gg (Ne.symm HNE.out), HI.out, (Ws.of_below HB.out).trans (Ws.of_wr HW3.out (.inr rfl))⟩
theorem cut_full {i : TypeInfo} (hi : Try.prog.info? 32 = some i) (A : Option Addr) (n c : Nat) (hc : n ≤ c) : ∀ W : World, (Instr.slice 46 (.slice A n c) none (some (.int .i64 (n : Int))) (some (.int .i64 (n : Int)))).run Try.prog W = .ok (.slice A n n) W := by
  intro W
  have hel : Try.prog.elem 46 = 32 := by simp [Program.elem, Try.underlying46]
  have hu : Try.prog.underlying 46 = some (.slice (Try.prog.elem 46)) := by rw [hel]; exact Try.underlying46
  have ha : (A.map fun x => x.add 0) = A := by cases A <;> simp [Addr.add]
  rw [run_slice_hm W 46 A n c hu .i64 .i64 (n : Int) (n : Int) (by omega) (by omega) (by omega), hel]
  simp [sizeOf, typeInfo, hi, sliced, Result.andThen, ha]
set_option maxHeartbeats 8000000 in
set_option maxRecDepth 100000 in
theorem TPut_calls (G : Nat → Prop) (t g : Nat) (x : TS) (s : DS) (dV : Value) (d : List Int) (w : World) (hT : IsT G w t g x) (hD : IsD G w g s) (hok : Okk s) (hdv : Rw G .u8 w dV d) (hbs : Bs d) (hdl : d.length < 1000000000) (hn : x.r.l.length < 1000000000) :
    Calls Try.prog 24 #[.pointer (some ⟨t, 0, none⟩), dV] w fun e w' => e = .returned (.int .i64 (putP x s d).2.2) ∧ IsT G w' t g (putP x s d).1 ∧ IsD G w' g (putP x s d).2.1 ∧ Ws (TG t g) w w' := by
  have HNE := Aside0.mk (hT.ne hD)
  have HDE := Aside0.mk (dead_calls G t g x w hT)
  have HOK := Aside0.mk hok
  have HT := Aside0.mk hT
  have HD := Aside0.mk hD
  have HDV := Aside0.mk hdv
  have HBS := Aside0.mk hbs
  have HN := Aside0.mk hn
  obtain ⟨A1, c1, rfl, hc1, hC1⟩ := Rw.slice hdv
  have HC := Aside0.mk (And.intro hc1 hC1)
  obtain ⟨r, hr⟩ : ∃ r, putP x s d = r := ⟨_, rfl⟩
  rw [hr]
  have HR := Aside0.mk hr
  clear hr hT hD hok hdv hbs hn hc1 hC1
  by_cases hlong : 8192 < d.length
  · have HS := Aside0.mk (show sealE d = ([], 4) from if_pos hlong)
    have HP := Aside0.mk (show putP x s d = (x, s, 4) from if_pos hlong)
    clear hlong hdl
    go_enter Try.func24, Try.ntmps24
    go_wp2_with (fail)
    refine HDE.out.mono ?_
    rintro e w1 ⟨rfl, ⟨n0, rfl⟩⟩
    go_wp2_with (fail)
    refine (Seal_calls A1 c1 d _ (Kd.C_drewN HC.out.2 n0) HC.out.1 HBS.out).mono ?_
    rw [HS.out]
    rintro e w1 ⟨v, rfl, hR, hB⟩
    have HB := Aside0.mk (below_step (pw_below_drewN (Below.refl w.heap.size w) n0) hB)
    clear hR hB
    go_wp2
    go_ret
    rw [← HR.out, HP.out]
    exact ⟨rfl, HT.out.below HB.out, HD.out.below HB.out, Ws.of_below HB.out⟩
  · have HS := Aside0.mk (show sealE d = (sealP d, 0) from if_neg hlong)
    have HLG := Aside0.mk hlong
    obtain ⟨s2, e2, hap⟩ : ∃ s2 e2, appendP s (x.file : Int) (sealP d) = (s2, e2) := ⟨_, _, rfl⟩
    have HAP := Aside0.mk hap
    have HLB := Aside0.mk (show (sealP d).length < 1000000000 by have := seal_len d; have := enc_len 9 d.length; omega)
    have HDL := Aside0.mk (show d.length < 140737488355328 by omega)
    clear hlong hdl hap
    go_enter Try.func24, Try.ntmps24
    go_wp2_with (fail)
    refine HDE.out.mono ?_
    rintro e w1 ⟨rfl, ⟨n0, rfl⟩⟩
    go_wp2_with (fail)
    refine (Seal_calls A1 c1 d _ (Kd.C_drewN HC.out.2 n0) HC.out.1 HBS.out).mono ?_
    rw [HS.out]
    rintro e w1 ⟨v, rfl, hR, hB⟩
    obtain ⟨B, cb, rfl⟩ := Kd.R_slice hR
    have HRB0 := Aside0.mk (Rw.of_R (G := fun b => b = g) hR (fun b e => e ▸ HD.out.ltg))
    have HB := Aside0.mk (below_step (pw_below_drewN (Below.refl w.heap.size w) n0) hB)
    clear hR hB
    go_wp2
    refine with_w (fun w' => IsT G w' t g x ∧ IsD G w' g s ∧ Rw (fun b => b = g) .u8 w' (.slice B (sealP d).length cb) (sealP d) ∧ Rw G .u8 w' (.slice A1 d.length c1) d ∧ Below w.heap.size w w') ⟨HT.out.below HB.out, HD.out.below HB.out, HRB0.out, Rw.below HDV.out HB.out, HB.out⟩ ?_
    clear HT HD HDE HB HRB0 HDV HC
    rintro wr ⟨hT, hD, hRB, hDV, hB⟩
    have HT := Aside0.mk hT
    have HD3 := Aside0.mk hD
    have HB := Aside0.mk hB
    have HRB := Aside0.mk hRB
    have HDV := Aside0.mk hDV
    obtain ⟨hgt, bV, lV, hb, hBr, hLr⟩ := hT
    obtain ⟨A, c, rfl, hcl, _⟩ := hLr.slice
    have hq3 : wr.cell? ⟨t, 3, none⟩ = some (.pointer (some ⟨g, 0, none⟩)) := (blk_cell hb 3).trans rfl
    have hq4 : wr.cell? ⟨t, 4, none⟩ = some (.int .i64 (x.file : Int)) := (blk_cell hb 4).trans rfl
    have HBL := Aside0.mk hb
    have HRS := Aside0.mk (And.intro hBr hLr)
    clear hD hB hb hBr hLr hRB hDV
    refine start_ (n := 11) (S := fun w' => w'.cell? ⟨t, 3, none⟩ = some (.pointer (some ⟨g, 0, none⟩)) ∧ w'.cell? ⟨t, 4, none⟩ = some (.int .i64 (x.file : Int))) (ds := []) #[false, false, false, false, false, false, false, false, false, false, false] (by kernel_rfl) rfl rfl ⟨hq3, hq4⟩ (fun hHeld => ?_)
    refine pure_ (i := 0) (N := some 18) (v := ?_) (a' := ?_) #[true, false, false, false, false, false, false, false, false, false, false] rfl rfl (by kernel_rfl) (fun _ _ _ h => h) (Or.inl ⟨by rfl, ?_⟩) ?_ ?_
    rotate_left
    · intro w'
      go_simp
      with_reducible rfl
    rotate_left
    · simp only [Act.put, List.setIfInBounds_toArray, List.set_cons_zero, List.set_cons_succ, i64_w, i32_w]
      rfl
    refine pure_ (i := 1) (N := some 19) (v := ?_) (a' := ?_) #[true, true, false, false, false, false, false, false, false, false, false] rfl rfl (by kernel_rfl) (fun _ _ _ h => h) (Or.inl ⟨by rfl, ?_⟩) ?_ ?_
    rotate_left
    · intro w'
      go_simp
      with_reducible rfl
    rotate_left
    · simp only [Act.put, List.setIfInBounds_toArray, List.set_cons_zero, List.set_cons_succ, i64_w, i32_w]
      rfl
    refine pure_ (i := 2) (N := some 20) (v := ?_) (a' := ?_) #[true, true, true, false, false, false, false, false, false, false, false] rfl rfl (by kernel_rfl) (fun _ _ _ h => h) (Or.inl ⟨by rfl, ?_⟩) ?_ ?_
    rotate_left
    · intro w'
      go_simp
      with_reducible rfl
    rotate_left
    · simp only [Act.put, List.setIfInBounds_toArray, List.set_cons_zero, List.set_cons_succ, i64_w, i32_w]
      rfl
    refine pure_ (i := 4) (N := some 22) (v := ?_) (a' := ?_) #[true, true, true, false, true, false, false, false, false, false, false] rfl rfl (by kernel_rfl) (fun _ _ _ h => h) (Or.inl ⟨by rfl, ?_⟩) ?_ ?_
    rotate_left
    · intro w'
      go_simp
      with_reducible rfl
    rotate_left
    · simp only [Act.put, List.setIfInBounds_toArray, List.set_cons_zero, List.set_cons_succ, i64_w, i32_w]
      rfl
    refine pure_ (i := 5) (N := some 23) (v := ?_) (a' := ?_) #[true, true, true, false, true, true, false, false, false, false, false] rfl rfl (by kernel_rfl) (fun _ _ _ h => h) (Or.inl ⟨by rfl, ?_⟩) ?_ ?_
    rotate_left
    · intro w'
      go_simp
      with_reducible rfl
    rotate_left
    · simp only [Act.put, List.setIfInBounds_toArray, List.set_cons_zero, List.set_cons_succ, i64_w, i32_w]
      rfl
    refine pure_ (i := 6) (N := some 24) (v := ?_) (a' := ?_) #[true, true, true, false, true, true, true, false, false, false, false] rfl rfl (by kernel_rfl) (fun _ _ _ h => h) (Or.inl ⟨by rfl, ?_⟩) ?_ ?_
    rotate_left
    · intro w'
      go_simp
      with_reducible rfl
    rotate_left
    · simp only [Act.put, List.setIfInBounds_toArray, List.set_cons_zero, List.set_cons_succ, i64_w, i32_w]
      rfl
    refine pure_ (i := 8) (N := some 26) (v := ?_) (a' := ?_) #[true, true, true, false, true, true, true, false, true, false, false] rfl rfl (by kernel_rfl) (fun _ _ _ h => h) (Or.inl ⟨by rfl, ?_⟩) ?_ ?_
    rotate_left
    · intro w'
      go_simp
      with_reducible rfl
    rotate_left
    · simp only [Act.put, List.setIfInBounds_toArray, List.set_cons_zero, List.set_cons_succ, i64_w, i32_w]
      rfl
    refine take_ (i := 3) (N := some 21) (v := ?_) (a' := ?_) #[true, true, true, true, true, true, true, false, true, false, false] rfl rfl (by kernel_rfl) (fun _ _ _ h => h) (Or.inl ⟨by rfl, ?_⟩) hHeld ?_ ?_
    rotate_left
    · rintro w' ⟨s0, s1⟩
      go_simp
      with_reducible rfl
    rotate_left
    · simp only [Act.put, List.setIfInBounds_toArray, List.set_cons_zero, List.set_cons_succ, i64_w, i32_w]
      rfl
    refine take_ (i := 7) (N := some 25) (v := ?_) (a' := ?_) #[true, true, true, true, true, true, true, true, true, false, false] rfl rfl (by kernel_rfl) (fun _ _ _ h => h) (Or.inl ⟨by rfl, ?_⟩) hHeld ?_ ?_
    rotate_left
    · rintro w' ⟨s0, s1⟩
      go_simp
      with_reducible rfl
    rotate_left
    · simp only [Act.put, List.setIfInBounds_toArray, List.set_cons_zero, List.set_cons_succ, i64_w, i32_w]
      rfl
    refine one_ (i := 9) (N := some 27) #[true, true, true, true, true, true, true, true, true, true, false] rfl rfl (by kernel_rfl) (by decide) (fun K hK => ?_)
    refine goes_ Try.func32 (by kernel_rfl) rfl #[.pointer (some ⟨g, 0, none⟩), .int .i64 (x.file : Int), .slice B (sealP d).length cb] (by rfl) rfl rfl (by first | rfl | (simp; done) | (simp only [List.map_toArray, List.map_cons, List.map_nil]; rfl)) ?_
    with_reducible refine (Append_calls G g s (x.file : Int) (.slice B (sealP d).length cb) (sealP d) _ (by repeat (first | exact HD3.out | (with_reducible refine IsD.dr ?_) | (with_reducible refine IsD.drN ?_ _))) HOK.out (Rw.below HRB.out (below_drew1 (Below.refl _ _))) HLB.out).mono ?_
    rw [HAP.out]
    rintro e w3 ⟨rfl, hI, hW⟩
    refine ⟨_, rfl, ?_⟩
    refine hK.out _ _ ⟨hW.cell hHeld.1 HNE.out, hW.cell hHeld.2 HNE.out⟩ (fun hHeld => ?_)
    clear hK K
    refine norm_ (a' := ?_) ?_ ?_
    rotate_left
    · show Act.put _ (some 27) _ = _
      simp only [Act.put, List.setIfInBounds_toArray, List.set_cons_zero, List.set_cons_succ, i64_w, i32_w]
      rfl
    refine pure_ (i := 10) (N := some 7) (v := ?_) (a' := ?_) #[true, true, true, true, true, true, true, true, true, true, true] rfl rfl (by kernel_rfl) (fun _ _ _ h => h) (Or.inl ⟨by rfl, ?_⟩) ?_ ?_
    rotate_left
    · intro w'
      go_simp
      with_reducible rfl
    rotate_left
    · simp only [Act.put, List.setIfInBounds_toArray, List.set_cons_zero, List.set_cons_succ, i64_w, i32_w]
      rfl
    refine done_ (by kernel_rfl) ?_
    have hwr : Wr g wr w3 := (Wr.of_below (below_drew1 (Below.refl _ _))).trans hW
    have HW3 := Aside0.mk hwr
    have HI := Aside0.mk hI
    have HGG := Aside0.mk HI.out.gg
    clear hI hW hwr hq3 hq4
    by_cases ce : e2 = 0
    · subst ce
      have HP := Aside0.mk (show putP x s d = (⟨⟨x.r.gen, x.r.base, x.r.l ++ [d]⟩, x.file, x.kept⟩, s2, 0) by
        unfold putP
        rw [if_neg HLG.out, HAP.out]
        exact if_neg (fun h => h rfl))
      go_wp2
      refine with_w (fun w' => w'.heap[t]? = some (.cells (tapeCells x bV (.slice A x.r.l.length c) g) 50 (0, 0)) ∧ IsD G w' g s2 ∧ Rw G .u8 w' bV x.r.base ∧ Rs G w' (.slice A x.r.l.length c) x.r.l ∧ Rw G .u8 w' (.slice A1 d.length c1) d ∧ Ws (TG t g) w w') ⟨(HW3.out.block t (blk_lt HBL.out) HNE.out).trans HBL.out, HI.out, Rw.wr HRS.out.1 HW3.out HGG.out, HRS.out.2.ws (Ws.of_wr HW3.out (P := fun b => b = g) rfl) (fun b e => e ▸ HGG.out), Rw.wr HDV.out HW3.out HGG.out, (Ws.of_below HB.out).trans (Ws.of_wr HW3.out (.inr rfl))⟩ ?_
      clear HT HD3 HB HRB HDV HBL HRS HW3 HI
      rintro w4 ⟨hq, hD, hBr, hLr, hDV, hW4⟩
      have HD4 := Aside0.mk hD
      have HGL := Aside0.mk hD.lt
      have HBR := Aside0.mk hBr
      have HLR := Aside0.mk hLr
      obtain ⟨A1', c1', ee, hc1, hC1⟩ := Rw.slice hDV
      injection ee with ee1 _ ee3
      subst ee1 ee3
      have HDC := Aside0.mk (And.intro hc1 hC1)
      have HW4 := Aside0.mk hW4
      obtain ⟨i0, hi0, _, hz1, _⟩ := info_parts Wk.info32
      have HCUT := cut_full hi0 A x.r.l.length c hcl
      clear hi0 hz1
      clear hD hBr hLr hDV hc1 hC1 hW4
      refine start_ (n := 27) (S := fun w' => w'.heap[t]? = some (.cells (tapeCells x bV (.slice A x.r.l.length c) g) 50 (0, 0))) (ds := [26]) #[false, false, false, false, false, false, false, false, false, false, false, false, false, false, false, false, false, false, false, false, false, false, false, false, false, false, false] (by kernel_rfl) rfl rfl (hq) (fun hHeld => ?_)
      refine pure_ (i := 0) (N := some 31) (v := ?_) (a' := ?_) #[true, false, false, false, false, false, false, false, false, false, false, false, false, false, false, false, false, false, false, false, false, false, false, false, false, false, false] rfl rfl (by kernel_rfl) (fun _ _ _ h => h) (Or.inl ⟨by rfl, ?_⟩) ?_ ?_
      rotate_left
      · intro w'
        go_simp
        with_reducible rfl
      rotate_left
      · simp only [Act.put, List.setIfInBounds_toArray, List.set_cons_zero, List.set_cons_succ, i64_w, i32_w]
        rfl
      refine pure_ (i := 1) (N := some 32) (v := ?_) (a' := ?_) #[true, true, false, false, false, false, false, false, false, false, false, false, false, false, false, false, false, false, false, false, false, false, false, false, false, false, false] rfl rfl (by kernel_rfl) (fun _ _ _ h => h) (Or.inl ⟨by rfl, ?_⟩) ?_ ?_
      rotate_left
      · intro w'
        go_simp
        with_reducible rfl
      rotate_left
      · simp only [Act.put, List.setIfInBounds_toArray, List.set_cons_zero, List.set_cons_succ, i64_w, i32_w]
        rfl
      refine pure_ (i := 2) (N := some 33) (v := ?_) (a' := ?_) #[true, true, true, false, false, false, false, false, false, false, false, false, false, false, false, false, false, false, false, false, false, false, false, false, false, false, false] rfl rfl (by kernel_rfl) (fun _ _ _ h => h) (Or.inl ⟨by rfl, ?_⟩) ?_ ?_
      rotate_left
      · intro w'
        go_simp
        with_reducible rfl
      rotate_left
      · simp only [Act.put, List.setIfInBounds_toArray, List.set_cons_zero, List.set_cons_succ, i64_w, i32_w]
        rfl
      refine pure_ (i := 3) (N := some 34) (v := ?_) (a' := ?_) #[true, true, true, true, false, false, false, false, false, false, false, false, false, false, false, false, false, false, false, false, false, false, false, false, false, false, false] rfl rfl (by kernel_rfl) (fun _ _ _ h => h) (Or.inl ⟨by rfl, ?_⟩) ?_ ?_
      rotate_left
      · intro w'
        go_simp
        with_reducible rfl
      rotate_left
      · simp only [Act.put, List.setIfInBounds_toArray, List.set_cons_zero, List.set_cons_succ, i64_w, i32_w]
        rfl
      refine pure_ (i := 4) (N := some 35) (v := ?_) (a' := ?_) #[true, true, true, true, true, false, false, false, false, false, false, false, false, false, false, false, false, false, false, false, false, false, false, false, false, false, false] rfl rfl (by kernel_rfl) (fun _ _ _ h => h) (Or.inl ⟨by rfl, ?_⟩) ?_ ?_
      rotate_left
      · intro w'
        go_simp
        with_reducible rfl
      rotate_left
      · simp only [Act.put, List.setIfInBounds_toArray, List.set_cons_zero, List.set_cons_succ, i64_w, i32_w]
        rfl
      refine pure_ (i := 6) (N := some 37) (v := ?_) (a' := ?_) #[true, true, true, true, true, false, true, false, false, false, false, false, false, false, false, false, false, false, false, false, false, false, false, false, false, false, false] rfl rfl (by kernel_rfl) (fun _ _ _ h => h) (Or.inl ⟨by rfl, ?_⟩) ?_ ?_
      rotate_left
      · intro w'
        go_simp
        with_reducible rfl
      rotate_left
      · simp only [Act.put, List.setIfInBounds_toArray, List.set_cons_zero, List.set_cons_succ, i64_w, i32_w]
        rfl
      refine pure_ (i := 7) (N := some 38) (v := ?_) (a' := ?_) #[true, true, true, true, true, false, true, true, false, false, false, false, false, false, false, false, false, false, false, false, false, false, false, false, false, false, false] rfl rfl (by kernel_rfl) (fun _ _ _ h => h) (Or.inl ⟨by rfl, ?_⟩) ?_ ?_
      rotate_left
      · intro w'
        go_simp
        with_reducible rfl
      rotate_left
      · simp only [Act.put, List.setIfInBounds_toArray, List.set_cons_zero, List.set_cons_succ, i64_w, i32_w]
        rfl
      refine pure_ (i := 8) (N := some 39) (v := ?_) (a' := ?_) #[true, true, true, true, true, false, true, true, true, false, false, false, false, false, false, false, false, false, false, false, false, false, false, false, false, false, false] rfl rfl (by kernel_rfl) (fun _ _ _ h => h) (Or.inl ⟨by rfl, ?_⟩) ?_ ?_
      rotate_left
      · intro w'
        go_simp
        with_reducible rfl
      rotate_left
      · simp only [Act.put, List.setIfInBounds_toArray, List.set_cons_zero, List.set_cons_succ, i64_w, i32_w]
        rfl
      refine pure_ (i := 9) (N := some 40) (v := ?_) (a' := ?_) #[true, true, true, true, true, false, true, true, true, true, false, false, false, false, false, false, false, false, false, false, false, false, false, false, false, false, false] rfl rfl (by kernel_rfl) (fun _ _ _ h => h) (Or.inl ⟨by rfl, ?_⟩) ?_ ?_
      rotate_left
      · intro w'
        go_simp
        with_reducible rfl
      rotate_left
      · simp only [Act.put, List.setIfInBounds_toArray, List.set_cons_zero, List.set_cons_succ, i64_w, i32_w]
        rfl
      refine pure_ (i := 12) (N := some 43) (v := ?_) (a' := ?_) #[true, true, true, true, true, false, true, true, true, true, false, false, true, false, false, false, false, false, false, false, false, false, false, false, false, false, false] rfl rfl (by kernel_rfl) (fun _ _ _ h => h) (Or.inl ⟨by rfl, ?_⟩) ?_ ?_
      rotate_left
      · intro w'
        go_simp
        with_reducible rfl
      rotate_left
      · simp only [Act.put, List.setIfInBounds_toArray, List.set_cons_zero, List.set_cons_succ, i64_w, i32_w]
        rfl
      refine pure_ (i := 13) (N := some 44) (v := ?_) (a' := ?_) #[true, true, true, true, true, false, true, true, true, true, false, false, true, true, false, false, false, false, false, false, false, false, false, false, false, false, false] rfl rfl (by kernel_rfl) (fun _ _ _ h => h) (Or.inl ⟨by rfl, ?_⟩) ?_ ?_
      rotate_left
      · intro w'
        go_simp
        with_reducible rfl
      rotate_left
      · simp only [Act.put, List.setIfInBounds_toArray, List.set_cons_zero, List.set_cons_succ, i64_w, i32_w]
        rfl
      refine pure_ (i := 14) (N := some 45) (v := ?_) (a' := ?_) #[true, true, true, true, true, false, true, true, true, true, false, false, true, true, true, false, false, false, false, false, false, false, false, false, false, false, false] rfl rfl (by kernel_rfl) (fun _ _ _ h => h) (Or.inl ⟨by rfl, ?_⟩) ?_ ?_
      rotate_left
      · intro w'
        go_simp
        with_reducible rfl
      rotate_left
      · simp only [Act.put, List.setIfInBounds_toArray, List.set_cons_zero, List.set_cons_succ, i64_w, i32_w]
        rfl
      refine pure_ (i := 15) (N := some 46) (v := ?_) (a' := ?_) #[true, true, true, true, true, false, true, true, true, true, false, false, true, true, true, true, false, false, false, false, false, false, false, false, false, false, false] rfl rfl (by kernel_rfl) (fun _ _ _ h => h) (Or.inl ⟨by rfl, ?_⟩) ?_ ?_
      rotate_left
      · intro w'
        go_simp
        with_reducible rfl
      rotate_left
      · simp only [Act.put, List.setIfInBounds_toArray, List.set_cons_zero, List.set_cons_succ, i64_w, i32_w]
        rfl
      refine pure_ (i := 19) (N := some 50) (v := ?_) (a' := ?_) #[true, true, true, true, true, false, true, true, true, true, false, false, true, true, true, true, false, false, false, true, false, false, false, false, false, false, false] rfl rfl (by kernel_rfl) (fun _ _ _ h => h) (Or.inl ⟨by rfl, ?_⟩) ?_ ?_
      rotate_left
      · intro w'
        go_simp
        with_reducible rfl
      rotate_left
      · simp only [Act.put, List.setIfInBounds_toArray, List.set_cons_zero, List.set_cons_succ, i64_w, i32_w]
        rfl
      refine take_ (i := 5) (N := some 36) (v := ?_) (a' := ?_) #[true, true, true, true, true, true, true, true, true, true, false, false, true, true, true, true, false, false, false, true, false, false, false, false, false, false, false] rfl rfl (by kernel_rfl) (fun _ _ _ h => h) (Or.inl ⟨by rfl, ?_⟩) hHeld ?_ ?_
      rotate_left
      · intro w' s0
        have d2_ := (blk_cell s0 2).trans (show _ = some (Value.slice A x.r.l.length c) from rfl)
        go_simp
        with_reducible rfl
      rotate_left
      · simp only [Act.put, List.setIfInBounds_toArray, List.set_cons_zero, List.set_cons_succ, i64_w, i32_w]
        rfl
      refine take_ (i := 10) (N := some 41) (v := ?_) (a' := ?_) #[true, true, true, true, true, true, true, true, true, true, true, false, true, true, true, true, false, false, false, true, false, false, false, false, false, false, false] rfl rfl (by kernel_rfl) (fun _ _ _ h => h) (Or.inl ⟨by rfl, ?_⟩) hHeld ?_ ?_
      rotate_left
      · intro w' s0
        have d2_ := (blk_cell s0 2).trans (show _ = some (Value.slice A x.r.l.length c) from rfl)
        go_simp
        with_reducible rfl
      rotate_left
      · simp only [Act.put, List.setIfInBounds_toArray, List.set_cons_zero, List.set_cons_succ, i64_w, i32_w]
        rfl
      refine pure_ (i := 11) (N := some 42) (v := ?_) (a' := ?_) #[true, true, true, true, true, true, true, true, true, true, true, true, true, true, true, true, false, false, false, true, false, false, false, false, false, false, false] rfl rfl (by kernel_rfl) (fun _ _ _ h => h) (Or.inl ⟨by rfl, ?_⟩) ?_ ?_
      rotate_left
      · intro w'
        go_simp
        with_reducible rfl
      rotate_left
      · simp only [Act.put, List.setIfInBounds_toArray, List.set_cons_zero, List.set_cons_succ, i64_w, i32_w]
        rfl
      refine take_ (i := 16) (N := some 47) (v := ?_) (a' := ?_) #[true, true, true, true, true, true, true, true, true, true, true, true, true, true, true, true, true, false, false, true, false, false, false, false, false, false, false] rfl rfl (by kernel_rfl) (fun _ _ _ h => h) (Or.inl ⟨by rfl, ?_⟩) hHeld ?_ ?_
      rotate_left
      · intro w' s0
        have d2_ := (blk_cell s0 2).trans (show _ = some (Value.slice A x.r.l.length c) from rfl)
        go_simp
        with_reducible rfl
      rotate_left
      · simp only [Act.put, List.setIfInBounds_toArray, List.set_cons_zero, List.set_cons_succ, i64_w, i32_w]
        rfl
      refine pure_ (i := 17) (N := some 48) (v := ?_) (a' := ?_) #[true, true, true, true, true, true, true, true, true, true, true, true, true, true, true, true, true, true, false, true, false, false, false, false, false, false, false] rfl rfl (by kernel_rfl) (fun _ _ _ h => h) (Or.inl ⟨by rfl, ?_⟩) ?_ ?_
      rotate_left
      · intro w'
        go_simp
        with_reducible rfl
      rotate_left
      · simp only [Act.put, List.setIfInBounds_toArray, List.set_cons_zero, List.set_cons_succ, i64_w, i32_w]
        rfl
      refine pure_ (i := 18) (N := some 49) (v := ?_) (a' := ?_) #[true, true, true, true, true, true, true, true, true, true, true, true, true, true, true, true, true, true, true, true, false, false, false, false, false, false, false] rfl rfl (by kernel_rfl) (fun _ _ _ h => h) (Or.inl ⟨by rfl, ?_⟩) ?_ ?_
      rotate_left
      · intro w'
        go_simp
        with_reducible rfl
      rotate_left
      · simp only [Act.put, List.setIfInBounds_toArray, List.set_cons_zero, List.set_cons_succ, i64_w, i32_w]
        rfl
      refine one_ (i := 20) (N := some 51) #[true, true, true, true, true, true, true, true, true, true, true, true, true, true, true, true, true, true, true, true, true, false, false, false, false, false, false] rfl rfl (by kernel_rfl) (by decide) (fun K hK => ?_)
      refine goes_ Try.func14 (by kernel_rfl) rfl #[.slice A1 d.length c1] (by rfl) rfl rfl (by first | rfl | (simp; done) | (simp only [List.map_toArray, List.map_cons, List.map_nil]; rfl)) ?_
      with_reducible refine (Clone_b A1 c1 d _ (Kd.C_drew HDC.out.2) HDC.out.1 HDL.out).mono ?_
      rintro e w5 ⟨v, rfl, hR, hb⟩
      refine ⟨_, rfl, ?_⟩
      obtain ⟨A5, c5, e5⟩ := Kd.R_slice hR
      subst e5
      have HB5 := Aside0.mk (below_step (below_drew1 (Below.refl w4.heap.size w4)) hb)
      have HR5 := Aside0.mk (Rw.of_R (G := G) hR (fun b hb => HGL.out b hb))
      have H5 := Aside0.mk (blk_below hHeld hb)
      clear hR
      refine hK.out _ _ (blk_below hHeld hb) (fun hHeld => ?_)
      clear hK K
      refine norm_ (a' := ?_) ?_ ?_
      rotate_left
      · show Act.put _ (some 51) _ = _
        simp only [Act.put, List.setIfInBounds_toArray, List.set_cons_zero, List.set_cons_succ, i64_w, i32_w]
        rfl
      refine one_ (i := 21) (N := some 52) #[true, true, true, true, true, true, true, true, true, true, true, true, true, true, true, true, true, true, true, true, true, true, false, false, false, false, false] rfl rfl (by kernel_rfl) (by decide) (fun K hK => ?_)
      refine value_ (w1 := ?_) (v := ?_) (by rfl) rfl ?_ ?_
      rotate_left 2
      · go_simp
        constructor
        · rfl
        · rfl
      refine hK.out _ _ (blk_alloc hHeld _) (fun hHeld => ?_)
      clear hK K
      refine norm_ (a' := ?_) ?_ ?_
      rotate_left
      · show Act.put _ (some 52) _ = _
        simp only [Act.put, List.setIfInBounds_toArray, List.set_cons_zero, List.set_cons_succ, i64_w, i32_w]
        rfl
      refine one_ (i := 22) (N := some 53) #[true, true, true, true, true, true, true, true, true, true, true, true, true, true, true, true, true, true, true, true, true, true, true, false, false, false, false] rfl rfl (by kernel_rfl) (by decide) (fun K hK => ?_)
      refine V_append_step (G := G) (W := w5) (by rfl) (.tmp 49) (.tmp 52) (by rfl) A c x.r.l (.slice A5 d.length c5) d (by rfl) (by rfl) ?aL ?aD ?aG ?aN ?_
      case aL => exact HLR.out.below HB5.out
      case aD => exact HR5.out
      case aG => exact fun b hb => Nat.lt_of_lt_of_le (HGL.out b hb) HB5.out.size
      case aN => exact HN.out
      intro v6 w6 h6 hb6
      obtain ⟨A6, c6, e6, _, _⟩ := h6.slice
      subst e6
      have H6 := Aside0.mk h6
      have HB6 := Aside0.mk (below_step HB5.out hb6)
      have HC6 := Aside0.mk (blk_below H5.out hb6)
      clear h6
      refine hK.out _ _ (HC6.out) (fun hHeld => ?_)
      clear hK K
      refine norm_ (a' := ?_) ?_ ?_
      rotate_left
      · show Act.put _ (some 53) _ = _
        simp only [Act.put, List.setIfInBounds_toArray, List.set_cons_zero, List.set_cons_succ, i64_w, i32_w]
        rfl
      refine pure_ (i := 23) (N := some 54) (v := ?_) (a' := ?_) #[true, true, true, true, true, true, true, true, true, true, true, true, true, true, true, true, true, true, true, true, true, true, true, true, false, false, false] rfl rfl (by kernel_rfl) (fun _ _ _ h => h) (Or.inl ⟨by rfl, ?_⟩) ?_ ?_
      rotate_left
      · intro w'
        go_simp
        with_reducible rfl
      rotate_left
      · simp only [Act.put, List.setIfInBounds_toArray, List.set_cons_zero, List.set_cons_succ, i64_w, i32_w]
        rfl
      refine pure_ (i := 24) (N := some 55) (v := ?_) (a' := ?_) #[true, true, true, true, true, true, true, true, true, true, true, true, true, true, true, true, true, true, true, true, true, true, true, true, true, false, false] rfl rfl (by kernel_rfl) (fun _ _ _ h => h) (Or.inl ⟨by rfl, ?_⟩) ?_ ?_
      rotate_left
      · intro w'
        go_simp
        with_reducible rfl
      rotate_left
      · simp only [Act.put, List.setIfInBounds_toArray, List.set_cons_zero, List.set_cons_succ, i64_w, i32_w]
        rfl
      refine pure_ (i := 25) (N := some 56) (v := ?_) (a' := ?_) #[true, true, true, true, true, true, true, true, true, true, true, true, true, true, true, true, true, true, true, true, true, true, true, true, true, true, false] rfl rfl (by kernel_rfl) (fun _ _ _ h => h) (Or.inl ⟨by rfl, ?_⟩) ?_ ?_
      rotate_left
      · intro w'
        go_simp
        with_reducible rfl
      rotate_left
      · simp only [Act.put, List.setIfInBounds_toArray, List.set_cons_zero, List.set_cons_succ, i64_w, i32_w]
        rfl
      refine last_ (i := 26) (N := none) #[true, true, true, true, true, true, true, true, true, true, true, true, true, true, true, true, true, true, true, true, true, true, true, true, true, true, true] rfl rfl (by kernel_rfl) (by decide) (fun K hK => ?_)
      have hcS := (blk_cell HC6.out 2).trans (show _ = some (Value.slice A x.r.l.length c) from rfl)
      have hfS := blk_frozen HC6.out 2
      refine skip_ (w1 := ?_) (by rfl) rfl ?_ ?_
      rotate_left
      · go_simp
        rfl
      refine hK.out _ _ ?_
      clear hK K
      refine done_ (by kernel_rfl) ?_
      go_wp2
      go_ret
      rw [← HR.out, HP.out]
      have hlen : (x.r.l ++ [d]).length = x.r.l.length + 1 := by simp
      rw [← hlen]
      have hs := Ws.of_set w6 (P := TG t g) (.inl rfl) 2 (.slice A6 (x.r.l ++ [d]).length c6)
      refine ⟨rfl, ?_, ?_, (HW4.out.trans (Ws.of_below HB6.out)).trans hs⟩
      · exact IsT.put (y := ⟨⟨x.r.gen, x.r.base, x.r.l ++ [d]⟩, x.file, x.kept⟩) HC6.out hgt 2 _ rfl (Rw.below HBR.out HB6.out) H6.out
      · exact IsD.other (HD4.out.below HB6.out) (Wr.set (Wr.refl t w6) 2 _) hgt (Ne.symm HNE.out)
    · have d1 : (e2 != (0 : Int)) = true := by simpa using ce
      have d2 : (e2 == (0 : Int)) = false := by simpa using ce
      have HP := Aside0.mk (show putP x s d = (x, s2, e2) by
        unfold putP
        rw [if_neg HLG.out, HAP.out]
        exact if_pos ce)
      clear ce
      go_wp2
      go_ret
      rw [← HR.out, HP.out]
      exact ⟨rfl, HT.out.wr HW3.out HGG.out (Ne.symm HNE.out), HI.out, (Ws.of_below HB.out).trans (Ws.of_wr HW3.out (.inr rfl))⟩
end Go.Proofs.Ytehjbhnlbjbhfaa.Tp
