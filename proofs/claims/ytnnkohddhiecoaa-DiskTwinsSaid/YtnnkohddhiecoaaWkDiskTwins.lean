/- A disk and its clone know nothing of one another. -/
import Derived.Test.YtnnkohddhiecoaaDkLen
namespace Go.Proofs.Ytnnkohddhiecoaa.Wk
open Go Go.RowKit Go.Proofs.YtnnkohddhiecoaaW.PrintWords Go.Proofs.YtnnkohddhiecoaaW.PrintLast Go.Proofs.YtnnkohddhiecoaaW.PrintMore Go.Proofs.Ytnnkohddhiecoaa.Dk
open Go.Proofs.Ytnnkohddhiecoaa.PDiskBegins
attribute [local go_sem] max2_int min2_int max_two min_two
set_option linter.unusedVariables false
set_option linter.unusedSimpArgs false
theorem short3 (l m n : List S35) (A : Option Addr) (c : Nat) (B : Option Addr) (d : Nat) (E : Option Addr) (f : Nat) (w : World) (hC : k35.C w A l.length l) (hc : l.length ≤ c) (hD : k35.C w B m.length m) (hd : m.length ≤ d) (hE : k35.C w E n.length n) (hf : n.length ≤ f) : ∃ r : Bool, (r = true → ((∀ x ∈ l, Small x) ∧ (∀ x ∈ m, Small x) ∧ ∀ x ∈ n, Small x) ∧ l.length ≤ 150 ∧ m.length ≤ 150 ∧ n.length ≤ 150) ∧
    Calls Try.prog 13 #[.slice (some ⟨w.heap.size, 0, none⟩) 3 3] (w.alloc (.cells #[.slice A l.length c, .slice B m.length d, .slice E n.length f] 22)) fun e w' => e = .returned (.bool r) ∧ Below w.heap.size w w' := by
  obtain ⟨k, r, h1, h2⟩ := short_says2 [l, m, n] (by simp) (fun x hx => by
    rcases List.mem_cons.1 hx with rfl | hx
    · exact Kd.C_max hC
    · rcases List.mem_cons.1 hx with rfl | hx
      · exact Kd.C_max hD
      · rw [List.mem_singleton.1 hx]; exact Kd.C_max hE)
  refine ⟨r, fun e => ⟨⟨(h2 e).2 l (by simp), (h2 e).2 m (by simp), (h2 e).2 n (by simp)⟩, (h2 e).1 l (by simp), (h2 e).1 m (by simp), (h2 e).1 n (by simp)⟩, ?_⟩
  refine (towlinelaw05_short.calls k _ 3 [l, m, n] r _ (lists_C (cs := [.slice A l.length c, .slice B m.length d, .slice E n.length f]) (blk_new w (.cells #[.slice A l.length c, .slice B m.length d, .slice E n.length f] 22)) (by simp) ?_) (Nat.le_refl _) h1).mono ?_
  · intro j x hj
    match j, hj with
    | 0, hj =>
      injection hj with hj
      subst hj
      exact ⟨A, c, rfl, hc, Kd.C_below hC (below_alloc (Below.refl _ _) _)⟩
    | 1, hj =>
      injection hj with hj
      subst hj
      exact ⟨B, d, rfl, hd, Kd.C_below hD (below_alloc (Below.refl _ _) _)⟩
    | 2, hj =>
      injection hj with hj
      subst hj
      exact ⟨E, f, rfl, hf, Kd.C_below hE (below_alloc (Below.refl _ _) _)⟩
  · rintro e w' ⟨rfl, hb⟩
    exact ⟨rfl, below_step (below_alloc (Below.refl _ _) _) hb⟩
theorem goP_append (s : DS) (l m : List S35) : goP s (l ++ m) = goP (goP s l) m := by unfold goP; rw [List.foldl_append]
set_option maxHeartbeats 16000000 in
set_option maxRecDepth 100000 in
theorem DiskTwins {W : World} (a0 : Option Addr) (cap0 : Nat) (l0 : List S35) (hl0 : l0.length ≤ cap0) (hC0 : k35.C W a0 l0.length l0) (hG0 : ∀ x ∈ l0, GDo x) (a1 : Option Addr) (cap1 : Nat) (l1 : List S35) (hl1 : l1.length ≤ cap1) (hC1 : k35.C W a1 l1.length l1) (hG1 : ∀ x ∈ l1, GDo x) (a2 : Option Addr) (cap2 : Nat) (l2 : List S35) (hl2 : l2.length ≤ cap2) (hC2 : k35.C W a2 l2.length l2) (hG2 : ∀ x ∈ l2, GDo x) :
    Calls Try.prog 9 #[.slice a0 l0.length cap0, .slice a1 l1.length cap1, .slice a2 l2.length cap2] W fun e w' => e = .returned (.bool true) ∧ Below W.heap.size W w' := by
  have HC0 := Aside0.mk hC0
  have HC1 := Aside0.mk hC1
  have HC2 := Aside0.mk hC2
  have HL0 := Aside0.mk hl0
  have HL1 := Aside0.mk hl1
  have HL2 := Aside0.mk hl2
  have HG0 := Aside0.mk hG0
  have HG1 := Aside0.mk hG1
  have HG2 := Aside0.mk hG2
  obtain ⟨r, hr, hsh⟩ := short3 l0 l1 l2 a0 cap0 a1 cap1 a2 cap2 W hC0 hl0 hC1 hl1 hC2 hl2
  have HSH := Aside0.mk hsh
  have HR := Aside0.mk hr
  clear hsh hr hC0 hC1 hC2 hG0 hG1 hG2
  cases r with
  | false =>
    clear HR
    go_enter Try.func9, Try.ntmps9
    go_wp2_with (fail)
    refine (HSH.out).mono ?_
    rintro e x2 ⟨rfl, hb1⟩
    have HY := Aside0.mk hb1
    clear hb1 HSH
    go_wp2_with (fail)
    refine (awake_calls _).mono ?_
    rintro e z1 ⟨rfl, hb7⟩
    have HZ := Aside0.mk (below_step HY.out hb7)
    clear hb7
    go_wp2_with (fail)
    go_ret
    exact ⟨rfl, HZ.out⟩
  | true =>
    have HSM := Aside0.mk (HR.out rfl)
    clear HR
    go_enter Try.func9, Try.ntmps9
    go_wp2_with (fail)
    refine (HSH.out).mono ?_
    rintro e x2 ⟨rfl, hb1⟩
    have HY := Aside0.mk hb1
    clear hb1 HSH
    go_wp2_with (fail)
    have HO0 := Aside0.mk (fun x hx => (HG0.out x hx).ok (HSM.out.1.1 x hx))
    have HO1 := Aside0.mk (fun x hx => (HG1.out x hx).ok (HSM.out.1.2.1 x hx))
    have HO2 := Aside0.mk (fun x hx => (HG2.out x hx).ok (HSM.out.1.2.2 x hx))
    refine (made_calls l0 a0 cap0 x2 (Kd.C_below HC0.out HY.out) HL0.out HO0.out).mono ?_
    rintro e x3 ⟨a, rfl, hb, hB3, hI⟩
    have HGA := Aside0.mk (Nat.le_trans HY.out.size hb)
    have HB3 := Aside0.mk (below_step HY.out hB3)
    have HI := Aside0.mk hI
    have HOK := Aside0.mk (goP_okk (newP_okk 2097152 (by decide)) l0 HO0.out)
    clear hb hB3 hI HY
    go_wp2_with (fail)
    refine (DClone_calls _ a _ _ HI.out).mono ?_
    rintro e yb ⟨b, rfl, hc, hc5, hB5, hI⟩
    have HDb := Aside0.mk hI
    have HDa := Aside0.mk (HI.out.more hc hc5 hB5)
    have HYB := Aside0.mk (show W.heap.size ≤ yb.heap.size from (below_step HB3.out hB5).size)
    have HBN := Aside0.mk (below_step HB3.out hB5)
    have HGB := Aside0.mk (Nat.le_trans HB3.out.size hc)
    have HNab := Aside0.mk (show a ≠ b by have := HI.out.ltg; omega)
    clear hc hc5 hB5 hI HI HB3
    go_wp2_with (fail)
    have HLEN := Aside0.mk HSM.out.2
    have HABL := Aside0.mk (show a < yb.heap.size ∧ b < yb.heap.size from ⟨HDa.out.ltg, HDb.out.ltg⟩)
    have HCY := Aside0.mk (Kd.C_below HC0.out HBN.out)
    refine (CloneD a0 cap0 l0 yb HCY.out HL0.out (by have := HLEN.out; omega)).mono ?_
    rintro e yc ⟨vv, rfl, hN, hB⟩
    have HN := Aside0.mk hN
    have HBY := Aside0.mk hB
    have HBW := Aside0.mk (below_step HBN.out hB)
    clear hN hB
    go_wp2_with ((with_reducible refine gate_builtin (b := .append) (xs := #[.tmp 24, .tmp 25]) rfl ?_); at_builtin; refine Kd.N_append_rows k35 (w0 := yb) yb.heap.size rfl (.tmp 24) (.tmp 25) 22 35 _ 72 rfl Try.underlying22 info35 rfl (by decide) (by omega) vv l0 l1 _ _ _ (fun _ => True) (fun k => k < W.heap.size) rfl rfl HN.out (Kd.F_below (Kd.C_F heap35 HC1.out) HBW.out) (fun k hk => ⟨trivial, fun he => by have := Kd.N_base HN.out k he.symm; have := HYB.out; omega⟩) (fun _ _ => trivial) HBY.out HBY.out.size (by have := HLEN.out; omega) ?_; intro vb w6 ho hb hg hat; clear hg hat; have HNN := Aside0.mk ho; have HBZ := Aside0.mk hb; clear ho hb; obtain ⟨A1, c1, e1⟩ := Kd.N_slice HNN.out; subst e1)
    have hm := made_calls (l0 ++ l1) A1 c1 w6 (Kd.N_reads' HNN.out).2.2 (by have := (Kd.N_reads' HNN.out).2.1; simpa using this) (fun x hx => (List.mem_append.1 hx).elim (HO0.out x) (HO1.out x))
    rw [List.length_append] at hm
    refine hm.mono ?_
    clear hm
    rintro e yd ⟨x, rfl, hpb, hB3, hI⟩
    have HLP := Aside0.mk (show yb.heap.size ≤ x from Nat.le_trans HBZ.out.size hpb)
    have HBT := Aside0.mk (below_step HBZ.out hB3)
    have HDx := Aside0.mk hI
    have HW6a := Aside0.mk (show yb.heap.size ≤ w6.heap.size from HBZ.out.size)
    have HAB0 := HABL
    clear hpb hB3 hI HN HBY HBW HNN HBZ HCY
    have HPLT := Aside0.mk (show x < yd.heap.size from HDx.out.ltg)
    have HDa := Aside0.mk (HDa.out.more HLP.out HPLT.out HBT.out)
    have HDb := Aside0.mk (HDb.out.more HLP.out HPLT.out HBT.out)
    have HGX := Aside0.mk (Nat.le_trans HYB.out HLP.out)
    have HNax := Aside0.mk (show a ≠ x by have := HABL.out.1; have := HLP.out; omega)
    have HNbx := Aside0.mk (show b ≠ x by have := HABL.out.2; have := HLP.out; omega)
    have HABL := Aside0.mk (show a < yd.heap.size ∧ b < yd.heap.size from ⟨HDa.out.ltg, HDb.out.ltg⟩)
    have HBN := Aside0.mk (below_step HBN.out HBT.out)
    have HYB := Aside0.mk (Nat.le_trans HYB.out HBT.out.size)
    have HXLT := Aside0.mk HPLT.out
    clear HLP HBT HPLT
    go_wp2_with (fail)
    have HCY := Aside0.mk (Kd.C_below HC0.out HBN.out)
    refine (CloneD a0 cap0 l0 yd HCY.out HL0.out (by have := HLEN.out; omega)).mono ?_
    rintro e yc ⟨vv, rfl, hN, hB⟩
    have HN := Aside0.mk hN
    have HBY := Aside0.mk hB
    have HBW := Aside0.mk (below_step HBN.out hB)
    clear hN hB
    go_wp2_with ((with_reducible refine gate_builtin (b := .append) (xs := #[.tmp 29, .tmp 30]) rfl ?_); at_builtin; refine Kd.N_append_rows k35 (w0 := yd) yd.heap.size rfl (.tmp 29) (.tmp 30) 22 35 _ 72 rfl Try.underlying22 info35 rfl (by decide) (by omega) vv l0 l2 _ _ _ (fun _ => True) (fun k => k < W.heap.size) rfl rfl HN.out (Kd.F_below (Kd.C_F heap35 HC2.out) HBW.out) (fun k hk => ⟨trivial, fun he => by have := Kd.N_base HN.out k he.symm; have := HYB.out; omega⟩) (fun _ _ => trivial) HBY.out HBY.out.size (by have := HLEN.out; omega) ?_; intro vb w6 ho hb hg hat; clear hg hat; have HNN := Aside0.mk ho; have HBZ := Aside0.mk hb; clear ho hb; obtain ⟨A2, c2, e2⟩ := Kd.N_slice HNN.out; subst e2)
    have hm := made_calls (l0 ++ l2) A2 c2 w6 (Kd.N_reads' HNN.out).2.2 (by have := (Kd.N_reads' HNN.out).2.1; simpa using this) (fun x hx => (List.mem_append.1 hx).elim (HO0.out x) (HO2.out x))
    rw [List.length_append] at hm
    refine hm.mono ?_
    clear hm
    rintro e ye ⟨y, rfl, hpb, hB3, hI⟩
    have HLP := Aside0.mk (show yd.heap.size ≤ y from Nat.le_trans HBZ.out.size hpb)
    have HBT := Aside0.mk (below_step HBZ.out hB3)
    have HDy := Aside0.mk hI
    have HW6b := Aside0.mk (show yd.heap.size ≤ w6.heap.size from HBZ.out.size)
    clear hpb hB3 hI HN HBY HBW HNN HBZ HCY
    have HPLT := Aside0.mk (show y < ye.heap.size from HDy.out.ltg)
    have HDa := Aside0.mk (HDa.out.more HLP.out HPLT.out HBT.out)
    have HDb := Aside0.mk (HDb.out.more HLP.out HPLT.out HBT.out)
    have HDx := Aside0.mk (HDx.out.more HLP.out HPLT.out HBT.out)
    have HGY := Aside0.mk (Nat.le_trans HYB.out HLP.out)
    have HNay := Aside0.mk (show a ≠ y by have := HABL.out.1; have := HLP.out; omega)
    have HNby := Aside0.mk (show b ≠ y by have := HABL.out.2; have := HLP.out; omega)
    have HNxy := Aside0.mk (show x ≠ y by have := HXLT.out; have := HLP.out; omega)
    have HBN := Aside0.mk (below_step HBN.out HBT.out)
    obtain ⟨M, hM1, hM2, hm1, hm2, hm3⟩ : ∃ M : Nat, (if l1.length < l2.length then (l2.length : Int) else (l1.length : Int)) = (M : Int) ∧ (if (l1.length : Int) < (l2.length : Int) then (l2.length : Int) else (l1.length : Int)) = (M : Int) ∧ l1.length ≤ M ∧ l2.length ≤ M ∧ M ≤ 150 := by
      have := HLEN.out
      by_cases c : l1.length < l2.length
      · exact ⟨l2.length, by rw [if_pos c], by rw [if_pos (by omega)], by omega, by omega, by omega⟩
      · exact ⟨l1.length, by rw [if_neg c], by rw [if_neg (by omega)], by omega, by omega, by omega⟩
    have hGl : ∀ k, (k = a ∨ k = b ∨ k = x ∨ k = y) → k < ye.heap.size := fun k h => by
      rcases h with rfl | rfl | rfl | rfl
      · exact HDa.out.ltg
      · exact HDb.out.ltg
      · exact HDx.out.ltg
      · exact HDy.out.ltg
    have Ha := Aside0.mk (HDa.out.grow (G' := fun k => k = a ∨ k = b ∨ k = x ∨ k = y) hGl (by simp) (fun k _ h => by rcases h with rfl | rfl | rfl | rfl <;> simp))
    have Hb := Aside0.mk (HDb.out.grow (G' := fun k => k = a ∨ k = b ∨ k = x ∨ k = y) hGl (by simp) (fun k _ h => by rcases h with rfl | rfl | rfl | rfl <;> simp))
    have Hx := Aside0.mk (HDx.out.grow (G' := fun k => k = a ∨ k = b ∨ k = x ∨ k = y) hGl (by simp) (fun k _ h => by
      have h1 := HAB0.out
      have h2 := HW6a.out
      rcases h with rfl | rfl | rfl | rfl
      · exact .inl (.inl (by omega))
      · exact .inl (.inl (by omega))
      · simp
      · simp))
    have Hy := Aside0.mk (HDy.out.grow (G' := fun k => k = a ∨ k = b ∨ k = x ∨ k = y) hGl (by simp) (fun k _ h => by
      have h1 := HABL.out
      have h2 := HW6b.out
      have h3 := HXLT.out
      rcases h with rfl | rfl | rfl | rfl
      · exact .inl (by omega)
      · exact .inl (by omega)
      · exact .inl (by omega)
      · simp))
    have HBL := HBN
    have HSX := Aside0.mk (goP_append (newP 2097152) l0 l1)
    have HSY := Aside0.mk (goP_append (newP 2097152) l0 l2)
    rw [HSX.out] at Hx
    rw [HSY.out] at Hy
    clear hGl HDa HDb HDx HDy HAB0 HW6a HABL HW6b HXLT HBN HLP HBT HPLT HSX HSY
    generalize goP (newP 2097152) l0 = s1 at *
    obtain ⟨s2, hs2⟩ : ∃ s2, s1 = s2 := ⟨_, rfl⟩
    have HS2 := Aside0.mk hs2
    rw [show IsD (fun k => k = a ∨ k = b ∨ k = x ∨ k = y) ye b s1 = IsD (fun k => k = a ∨ k = b ∨ k = x ∨ k = y) ye b s2 by rw [hs2]] at Hb
    clear hs2
    have HOK1' := Aside0.mk (fun i => goP_okk HOK.out (l1.take i) (fun x hx => HO1.out x (List.mem_of_mem_take hx)))
    have HOK2' := Aside0.mk (fun i => goP_okk (HS2.out ▸ HOK.out) (l2.take i) (fun x hx => HO2.out x (List.mem_of_mem_take hx)))
    go_wp2_with (fail)
    go_loopw [38] (fun v38 wr => ∃ i : Nat, i ≤ M ∧ v38 = .int .i64 (i : Int) ∧ Aside0 (IsD (fun k => k = a ∨ k = b ∨ k = x ∨ k = y) wr a (goP s1 (l1.take i))) ∧ Aside0 (IsD (fun k => k = a ∨ k = b ∨ k = x ∨ k = y) wr b (goP s2 (l2.take i))) ∧ Aside0 (IsD (fun k => k = a ∨ k = b ∨ k = x ∨ k = y) wr x (goP s1 l1)) ∧ Aside0 (IsD (fun k => k = a ∨ k = b ∨ k = x ∨ k = y) wr y (goP s1 l2)) ∧ Aside0 (Below W.heap.size W wr)) (fun v38 _ => (M - intOf v38).toNat)
    case atStart => exact ⟨0, by omega, rfl, Ha, Hb, Hx, Hy, HBL⟩
    case round =>
      clear Ha Hb Hx Hy HBL
      obtain ⟨i, hi, rfl, Ha, Hb, Hx, Hy, HBL⟩ := hrel
      by_cases hlt : i < M
      · have HOK1 := Aside0.mk (HOK1'.out i)
        have HOK2 := Aside0.mk (HOK2'.out i)
        by_cases c1 : i < l1.length
        · have c1' := c1
          have d1 : decide ((i : Int) < (l1.length : Int)) = true := decide_eq_true (by omega)
          obtain ⟨ad1, P1, p1, Q1, q1, ee1, f0, f1, f2, f3, f4, m3, g3, m4, g4⟩ := at_T35 HC1.out (i : Int) (by omega) (by omega)
          cases ee1
          rw [Int.toNat_natCast] at f0 f1 f2 f3 f4
          have HST1 := Aside0.mk (goP_step s1 l1 c1')
          have HOO1 := Aside0.mk (HO1.out _ (rd_mem c1'))
          have HR31 := Aside0.mk ((Rw.came (G := fun k => k = a) g3 m3 (fun k hk => hk ▸ HGA.out)).below HBL.out)
          have HR41 := Aside0.mk ((Rw.came (G := fun k => k = a) g4 m4 (fun k hk => hk ▸ HGA.out)).below HBL.out)
          replace f0 := (HBL.out.cell (World.block_lt_of_cell? W _ f0)).trans f0
          replace f1 := (HBL.out.cell (World.block_lt_of_cell? W _ f1)).trans f1
          replace f2 := (HBL.out.cell (World.block_lt_of_cell? W _ f2)).trans f2
          replace f3 := (HBL.out.cell (World.block_lt_of_cell? W _ f3)).trans f3
          replace f4 := (HBL.out.cell (World.block_lt_of_cell? W _ f4)).trans f4
          clear g3 g4 m3 m4
          generalize rd_T35 l1 (i : Int) = k1 at *
          go_wp2_with (fail)
          refine (does_calls _ a _ (toDd k1) _ _ _ Ha.out HOK1.out HOO1.out HR31.out HR41.out).mono ?_
          rintro e z1 ⟨rfl, hI, hW⟩
          rw [← HST1.out] at hI
          have Han := Aside0.mk hI
          have Hbn := Aside0.mk (Hb.out.other hW (by simp) HNab.out.symm)
          have Hxn := Aside0.mk (Hx.out.other hW (by simp) HNax.out.symm)
          have Hyn := Aside0.mk (Hy.out.other hW (by simp) HNay.out.symm)
          have HBLn := Aside0.mk (hW.below HBL.out HGA.out)
          clear hI hW Ha Hb Hx Hy HBL f0 f1 f2 f3 f4 HST1 HOO1 HR31 HR41
          have Ha := Han
          have Hb := Hbn
          have Hx := Hxn
          have Hy := Hyn
          have HBL := HBLn
          clear Han Hbn Hxn Hyn HBLn
          generalize (doesP _ (toDd k1)).2 = er1
          by_cases c2 : i < l2.length
          · have c2' := c2
            have d2 : decide ((i : Int) < (l2.length : Int)) = true := decide_eq_true (by omega)
            obtain ⟨ad2, P2, p2, Q2, q2, ee2, f0, f1, f2, f3, f4, m3, g3, m4, g4⟩ := at_T35 HC2.out (i : Int) (by omega) (by omega)
            cases ee2
            rw [Int.toNat_natCast] at f0 f1 f2 f3 f4
            have HST2 := Aside0.mk (goP_step s2 l2 c2')
            have HOO2 := Aside0.mk (HO2.out _ (rd_mem c2'))
            have HR32 := Aside0.mk ((Rw.came (G := fun k => k = b) g3 m3 (fun k hk => hk ▸ HGB.out)).below HBL.out)
            have HR42 := Aside0.mk ((Rw.came (G := fun k => k = b) g4 m4 (fun k hk => hk ▸ HGB.out)).below HBL.out)
            replace f0 := (HBL.out.cell (World.block_lt_of_cell? W _ f0)).trans f0
            replace f1 := (HBL.out.cell (World.block_lt_of_cell? W _ f1)).trans f1
            replace f2 := (HBL.out.cell (World.block_lt_of_cell? W _ f2)).trans f2
            replace f3 := (HBL.out.cell (World.block_lt_of_cell? W _ f3)).trans f3
            replace f4 := (HBL.out.cell (World.block_lt_of_cell? W _ f4)).trans f4
            clear g3 g4 m3 m4
            generalize rd_T35 l2 (i : Int) = k2 at *
            go_wp2_with (fail)
            refine (does_calls _ b _ (toDd k2) _ _ _ Hb.out HOK2.out HOO2.out HR32.out HR42.out).mono ?_
            rintro e z2 ⟨rfl, hI, hW⟩
            rw [← HST2.out] at hI
            have Hbn := Aside0.mk hI
            have Han := Aside0.mk (Ha.out.other hW (by simp) HNab.out)
            have Hxn := Aside0.mk (Hx.out.other hW (by simp) HNbx.out.symm)
            have Hyn := Aside0.mk (Hy.out.other hW (by simp) HNby.out.symm)
            have HBLn := Aside0.mk (hW.below HBL.out HGB.out)
            clear hI hW Ha Hb Hx Hy HBL f0 f1 f2 f3 f4 HST2 HOO2 HR32 HR42
            have Ha := Han
            have Hb := Hbn
            have Hx := Hxn
            have Hy := Hyn
            have HBL := HBLn
            clear Han Hbn Hxn Hyn HBLn
            generalize (doesP _ (toDd k2)).2 = er2
            go_wp2_with (fail)
            go_roundw
            case rel => exact ⟨i + 1, by omega, by go_num, Ha, Hb, Hx, Hy, HBL⟩
            case measure => simp [intOf]; omega
          · have d2 : decide ((i : Int) < (l2.length : Int)) = false := decide_eq_false (by omega)
            rw [show goP s2 (l2.take i) = goP s2 (l2.take (i + 1)) by rw [List.take_of_length_le (by omega), List.take_of_length_le (by omega)]] at Hb
            go_wp2_with (fail)
            go_roundw
            case rel => exact ⟨i + 1, by omega, by go_num, Ha, Hb, Hx, Hy, HBL⟩
            case measure => simp [intOf]; omega
        · have d1 : decide ((i : Int) < (l1.length : Int)) = false := decide_eq_false (by omega)
          rw [show goP s1 (l1.take i) = goP s1 (l1.take (i + 1)) by rw [List.take_of_length_le (by omega), List.take_of_length_le (by omega)]] at Ha
          by_cases c2 : i < l2.length
          · have c2' := c2
            have d2 : decide ((i : Int) < (l2.length : Int)) = true := decide_eq_true (by omega)
            obtain ⟨ad2, P2, p2, Q2, q2, ee2, f0, f1, f2, f3, f4, m3, g3, m4, g4⟩ := at_T35 HC2.out (i : Int) (by omega) (by omega)
            cases ee2
            rw [Int.toNat_natCast] at f0 f1 f2 f3 f4
            have HST2 := Aside0.mk (goP_step s2 l2 c2')
            have HOO2 := Aside0.mk (HO2.out _ (rd_mem c2'))
            have HR32 := Aside0.mk ((Rw.came (G := fun k => k = b) g3 m3 (fun k hk => hk ▸ HGB.out)).below HBL.out)
            have HR42 := Aside0.mk ((Rw.came (G := fun k => k = b) g4 m4 (fun k hk => hk ▸ HGB.out)).below HBL.out)
            replace f0 := (HBL.out.cell (World.block_lt_of_cell? W _ f0)).trans f0
            replace f1 := (HBL.out.cell (World.block_lt_of_cell? W _ f1)).trans f1
            replace f2 := (HBL.out.cell (World.block_lt_of_cell? W _ f2)).trans f2
            replace f3 := (HBL.out.cell (World.block_lt_of_cell? W _ f3)).trans f3
            replace f4 := (HBL.out.cell (World.block_lt_of_cell? W _ f4)).trans f4
            clear g3 g4 m3 m4
            generalize rd_T35 l2 (i : Int) = k2 at *
            go_wp2_with (fail)
            refine (does_calls _ b _ (toDd k2) _ _ _ Hb.out HOK2.out HOO2.out HR32.out HR42.out).mono ?_
            rintro e z2 ⟨rfl, hI, hW⟩
            rw [← HST2.out] at hI
            have Hbn := Aside0.mk hI
            have Han := Aside0.mk (Ha.out.other hW (by simp) HNab.out)
            have Hxn := Aside0.mk (Hx.out.other hW (by simp) HNbx.out.symm)
            have Hyn := Aside0.mk (Hy.out.other hW (by simp) HNby.out.symm)
            have HBLn := Aside0.mk (hW.below HBL.out HGB.out)
            clear hI hW Ha Hb Hx Hy HBL f0 f1 f2 f3 f4 HST2 HOO2 HR32 HR42
            have Ha := Han
            have Hb := Hbn
            have Hx := Hxn
            have Hy := Hyn
            have HBL := HBLn
            clear Han Hbn Hxn Hyn HBLn
            generalize (doesP _ (toDd k2)).2 = er2
            go_wp2_with (fail)
            go_roundw
            case rel => exact ⟨i + 1, by omega, by go_num, Ha, Hb, Hx, Hy, HBL⟩
            case measure => simp [intOf]; omega
          · have d2 : decide ((i : Int) < (l2.length : Int)) = false := decide_eq_false (by omega)
            rw [show goP s2 (l2.take i) = goP s2 (l2.take (i + 1)) by rw [List.take_of_length_le (by omega), List.take_of_length_le (by omega)]] at Hb
            go_wp2_with (fail)
            go_roundw
            case rel => exact ⟨i + 1, by omega, by go_num, Ha, Hb, Hx, Hy, HBL⟩
            case measure => simp [intOf]; omega
      · obtain rfl : i = M := by omega
        rw [show goP s1 (l1.take i) = goP s1 l1 by rw [List.take_of_length_le hm1]] at Ha
        rw [show goP s2 (l2.take i) = goP s2 l2 by rw [List.take_of_length_le hm2], ← HS2.out] at Hb
        have HOA := Aside0.mk (goP_okk HOK.out l1 HO1.out)
        have HOB := Aside0.mk (goP_okk HOK.out l2 HO2.out)
        clear HOK1' HOK2' HS2 hm1 hm2 hlt hi hM1 hM2
        generalize goP s1 l1 = t1 at *
        generalize goP s1 l2 = t2 at *
        go_wp2_with (fail)
        refine (files_calls _ a t1 _ Ha.out HOA.out).mono ?_
        rintro e z1 ⟨VS, rfl, hv1, hf1, hI, hW⟩
        have HV1 := Aside0.mk hv1
        have HF1 := Aside0.mk (show FRows (fun k => k = x) 8 z1 VS (filesP t1) from hf1.map fun v xs h => h.grow (fun k _ e => e ▸ Hx.out.ltg))
        have Hb2 := Aside0.mk (Hb.out.other hW (by simp) HNab.out.symm)
        have Hx2 := Aside0.mk (Hx.out.other hW (by simp) HNax.out.symm)
        have Hy2 := Aside0.mk (Hy.out.other hW (by simp) HNay.out.symm)
        have HB2 := Aside0.mk (hW.below HBL.out HGA.out)
        clear hv1 hf1 hI hW Ha Hb Hx Hy HBL
        go_wp2_with (fail)
        refine (files_calls _ x t1 _ Hx2.out HOA.out).mono ?_
        rintro e z2 ⟨WS, rfl, hv1, hf1, hI, hW⟩
        have HV2 := Aside0.mk hv1
        have HF2 := Aside0.mk (show FRows (fun _ => False) 8 z2 WS (filesP t1) from hf1.map fun v xs h => h.grow (fun k _ e => e.elim))
        have HF1 := Aside0.mk (show FRows (fun _ => False) 8 z2 VS (filesP t1) from HF1.out.map fun v xs h => (h.wr hW rfl).grow (fun k _ e => e.elim))
        have Hb3 := Aside0.mk (Hb2.out.other hW (by simp) HNbx.out)
        have Hy3 := Aside0.mk (Hy2.out.other hW (by simp) HNxy.out.symm)
        have HB3 := Aside0.mk (hW.below HB2.out HGX.out)
        clear hv1 hf1 hI hW Hb2 Hx2 Hy2 HB2
        go_wp2_with (fail)
        refine (alike_same _ VS WS (filesP t1) z2 HV1.out HV2.out HF1.out HF2.out).mono ?_
        rintro e z3 ⟨rfl, hb⟩
        have Hb4 := Aside0.mk (Hb3.out.below hb)
        have Hy4 := Aside0.mk (Hy3.out.below hb)
        have HB4 := Aside0.mk (below_step HB3.out hb)
        clear hb Hb3 Hy3 HB3 HF1 HF2
        go_wp2_with (fail)
        refine (files_calls _ b t2 _ Hb4.out HOB.out).mono ?_
        rintro e z4 ⟨VT, rfl, hv1, hf1, hI, hW⟩
        have HV3 := Aside0.mk hv1
        have HF3 := Aside0.mk (show FRows (fun k => k = y) 8 z4 VT (filesP t2) from hf1.map fun v xs h => h.grow (fun k _ e => e ▸ Hy4.out.ltg))
        have Hy5 := Aside0.mk (Hy4.out.other hW (by simp) HNby.out.symm)
        have HB5 := Aside0.mk (hW.below HB4.out HGB.out)
        clear hv1 hf1 hI hW Hb4 Hy4 HB4
        go_wp2_with (fail)
        refine (files_calls _ y t2 _ Hy5.out HOB.out).mono ?_
        rintro e z5 ⟨WT, rfl, hv1, hf1, hI, hW⟩
        have HV4 := Aside0.mk hv1
        have HF4 := Aside0.mk (show FRows (fun _ => False) 8 z5 WT (filesP t2) from hf1.map fun v xs h => h.grow (fun k _ e => e.elim))
        have HF3 := Aside0.mk (show FRows (fun _ => False) 8 z5 VT (filesP t2) from HF3.out.map fun v xs h => (h.wr hW rfl).grow (fun k _ e => e.elim))
        have HB6 := Aside0.mk (hW.below HB5.out HGY.out)
        clear hv1 hf1 hI hW Hy5 HB5
        go_wp2_with (fail)
        refine (alike_same _ VT WT (filesP t2) z5 HV3.out HV4.out HF3.out HF4.out).mono ?_
        rintro e z6 ⟨rfl, hb⟩
        have HB7 := Aside0.mk (below_step HB6.out hb)
        clear hb HB6 HF3 HF4
        go_wp2_with (fail)
        refine (awake_calls z6).mono ?_
        rintro e z7 ⟨rfl, hb⟩
        have HB8 := Aside0.mk (below_step HB7.out hb)
        clear hb HB7
        go_wp2_with (fail)
        go_ret
        exact ⟨rfl, HB8.out⟩
end Go.Proofs.Ytnnkohddhiecoaa.Wk
