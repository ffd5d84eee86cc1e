/- An act that leaves the power on changes no other file. -/
import Derived.Test.YtnnkohddhiecoaaDkZ
namespace Go.Proofs.Ytnnkohddhiecoaa.Wk
open Go Go.RowKit Go.Proofs.YtnnkohddhiecoaaW.PrintWords Go.Proofs.YtnnkohddhiecoaaW.PrintLast Go.Proofs.YtnnkohddhiecoaaW.PrintMore Go.Proofs.Ytnnkohddhiecoaa.Dk
open Go.Proofs.Ytnnkohddhiecoaa.PDiskBegins
attribute [local go_sem] max2_int min2_int max_two min_two
set_option linter.unusedVariables false
set_option linter.unusedSimpArgs false
theorem start_same {s : DS} (hr : s.room ≠ 0) (ho : s.off = false) : (startP s).1 = s := by
  rw [Dk.start_eq hr]
  cases s
  cases ho
  rfl
set_option maxHeartbeats 16000000 in
set_option maxRecDepth 100000 in
theorem DiskApart {W : World} (a0 : Option Addr) (cap0 : Nat) (l0 : List S35) (hl0 : l0.length ≤ cap0) (hC0 : k35.C W a0 l0.length l0) (hG0 : ∀ x ∈ l0, GDo x) (a1 : Array Value) (y : S35) (hK1 : k35.K W y a1.toList) (hG1 : GDo y) :
    Calls Try.prog 4 #[.slice a0 l0.length cap0, .agg a1] W fun e w' => e = .returned (.bool true) ∧ Below W.heap.size W w' := by
  obtain ⟨A3, c3, A4, c4, e1, l3, g3, l4, g4⟩ := k35_open hK1
  have ea := congrArg List.toArray e1
  rw [Array.toArray_toList] at ea
  subst ea
  have HG3 := Aside0.mk (And.intro l3 g3)
  have HG4 := Aside0.mk (And.intro l4 g4)
  have HGY := Aside0.mk hG1
  have HC0 := Aside0.mk hC0
  have HL0 := Aside0.mk hl0
  have HG0 := Aside0.mk hG0
  have hK2 := (Kd.C_below (one_K (fr := (0, 0)) (blk_new W (.cells #[.int .i64 y.f0, .int .i64 y.f1, .int .i64 y.f2, .slice A3 y.f3.length c3, .slice A4 y.f4.length c4] 35)) (k35.K_below (below_alloc (Below.refl _ _) (.cells #[.int .i64 y.f0, .int .i64 y.f1, .int .i64 y.f2, .slice A3 y.f3.length c3, .slice A4 y.f4.length c4] 35)) hK1)) (below_alloc (Below.refl _ _) (.cells #[.int .i64 y.f0, .int .i64 y.f1, .int .i64 y.f2, .slice A3 y.f3.length c3, .slice A4 y.f4.length c4] 35)))
  have hsz : (W.alloc (.cells #[.int .i64 y.f0, .int .i64 y.f1, .int .i64 y.f2, .slice A3 y.f3.length c3, .slice A4 y.f4.length c4] 35)).heap.size = W.heap.size + 1 := by simp
  have hn := blk_new (W.alloc (.cells #[.int .i64 y.f0, .int .i64 y.f1, .int .i64 y.f2, .slice A3 y.f3.length c3, .slice A4 y.f4.length c4] 35)) (.cells #[.int .i64 y.f0, .int .i64 y.f1, .int .i64 y.f2, .slice A3 y.f3.length c3, .slice A4 y.f4.length c4] 35)
  have hK3 := one_K (fr := (0, 0)) (cs := [.int .i64 y.f0, .int .i64 y.f1, .int .i64 y.f2, .slice A3 y.f3.length c3, .slice A4 y.f4.length c4]) hn (k35.K_below (below_alloc (Below.refl _ _) _) (k35.K_below (below_alloc (Below.refl _ _) (.cells #[.int .i64 y.f0, .int .i64 y.f1, .int .i64 y.f2, .slice A3 y.f3.length c3, .slice A4 y.f4.length c4] 35)) hK1))
  rw [hsz] at hK3
  obtain ⟨r, hr, hsh⟩ := short2 l0 [y] a0 cap0 (some ⟨W.heap.size + 1, 0, none⟩) 1 ((W.alloc (.cells #[.int .i64 y.f0, .int .i64 y.f1, .int .i64 y.f2, .slice A3 y.f3.length c3, .slice A4 y.f4.length c4] 35)).alloc (.cells #[.int .i64 y.f0, .int .i64 y.f1, .int .i64 y.f2, .slice A3 y.f3.length c3, .slice A4 y.f4.length c4] 35)) (Kd.C_below (Kd.C_below hC0 (below_alloc (Below.refl _ _) _)) (below_alloc (Below.refl _ _) _)) hl0 hK3 (Nat.le_refl _)
  replace hsh := hsh.mono (R' := fun e w' => e = .returned (.bool r) ∧ Below W.heap.size W w' ∧ w'.heap[W.heap.size]? = some (.cells #[.int .i64 y.f0, .int .i64 y.f1, .int .i64 y.f2, .slice A3 y.f3.length c3, .slice A4 y.f4.length c4] 35 (0, 0))) (fun e w' h => ⟨h.1, below_step (below_alloc (below_alloc (Below.refl _ _) _) _) h.2, blk_below (blk_alloc (blk_new W (.cells #[.int .i64 y.f0, .int .i64 y.f1, .int .i64 y.f2, .slice A3 y.f3.length c3, .slice A4 y.f4.length c4] 35)) _) h.2⟩)
  rw [show ((W.alloc (.cells #[.int .i64 y.f0, .int .i64 y.f1, .int .i64 y.f2, .slice A3 y.f3.length c3, .slice A4 y.f4.length c4] 35)).alloc (.cells #[.int .i64 y.f0, .int .i64 y.f1, .int .i64 y.f2, .slice A3 y.f3.length c3, .slice A4 y.f4.length c4] 35)).heap.size = W.heap.size + 2 by simp] at hsh
  have HSH := Aside0.mk hsh
  have HR := Aside0.mk hr
  clear hsh hr hC0 hG0 hK1 hK2 hK3 hn hsz e1 l3 g3 l4 g4 hG1
  cases r with
  | false =>
    clear HR
    go_enter Try.func4, Try.ntmps4
    go_wp2_with (fail)
    refine (HSH.out).mono ?_
    rintro e x2 ⟨rfl, hb1, hbx⟩
    have HY := Aside0.mk hb1
    have HBX := Aside0.mk hbx
    clear hb1 hbx HSH
    go_wp2_with (fail)
    refine (awake_calls _).mono ?_
    rintro e z1 ⟨rfl, hb7⟩
    have HZ := Aside0.mk (below_step HY.out hb7)
    clear hb7
    go_wp2_with (fail)
    go_ret
    exact ⟨rfl, HZ.out⟩
  | true =>
    have HSM := Aside0.mk (HR.out rfl)
    clear HR
    go_enter Try.func4, Try.ntmps4
    go_wp2_with (fail)
    refine (HSH.out).mono ?_
    rintro e x2 ⟨rfl, hb1, hbx⟩
    have HY := Aside0.mk hb1
    have HBX := Aside0.mk hbx
    clear hb1 hbx HSH
    go_wp2_with (fail)
    refine (made_calls l0 a0 cap0 x2 (Kd.C_below HC0.out HY.out) HL0.out (fun x hx => (HG0.out x hx).ok (HSM.out.2.1 x hx))).mono ?_
    rintro e x3 ⟨b, rfl, hb, hB3, hI⟩
    have HG := Aside0.mk (Nat.le_trans HY.out.size hb)
    have HNB := Aside0.mk (show W.heap.size ≠ b by have := blk_lt HBX.out; omega)
    have HBX3 := Aside0.mk (blk_below HBX.out hB3)
    have HB3 := Aside0.mk (below_step HY.out hB3)
    have HI := Aside0.mk hI
    have HOK := Aside0.mk (goP_okk (newP_okk 2097152 (by decide)) l0 (fun x hx => (HG0.out x hx).ok (HSM.out.2.1 x hx)))
    have HRM := Aside0.mk (go_room (newP 2097152) l0)
    clear hb hB3 hI HY HBX
    generalize goP (newP 2097152) l0 = s0 at *
    go_wp2_with (fail)
    refine (Start_calls _ b s0 _ HI.out).mono ?_
    rintro e x4 ⟨rfl, hI, hW⟩
    have HI1 := Aside0.mk hI
    have HB4 := Aside0.mk (hW.below HB3.out HG.out)
    have HBX4 := Aside0.mk ((hW.block _ (blk_lt HBX3.out) HNB.out).trans HBX3.out)
    have HOK1 := Aside0.mk HOK.out.start
    have HRM1 := Aside0.mk (show (startP s0).1.room ≠ 0 by rw [start_room, HRM.out]; decide)
    have HOF1 := Aside0.mk (show (startP s0).1.off = false by rw [Dk.start_eq (show s0.room ≠ 0 by rw [HRM.out]; decide)])
    clear hI hW HI HB3 HOK HRM HBX3
    generalize (startP s0).1 = s1 at *
    generalize (startP s0).2 = er at *
    go_wp2_with (fail)
    refine (files_calls _ b s1 _ HI1.out HOK1.out).mono ?_
    rintro e y1 ⟨TS, rfl, hv1, hf1, hI, hW⟩
    rw [start_same HRM1.out HOF1.out] at hI
    have HI2 := Aside0.mk hI
    have HB5 := Aside0.mk (hW.below HB4.out HG.out)
    have HBX5 := Aside0.mk ((hW.block _ (blk_lt HBX4.out) HNB.out).trans HBX4.out)
    have HLB := Aside0.mk (show b < x4.heap.size from HI1.out.ltg)
    have HT := Aside0.mk (show FRows (fun k => k = b) 8 y1 TS (fun j => (fl s1 j).seen) from fun j hj => by
      have h := hf1 j hj
      rw [filesP_start hj HRM1.out] at h
      exact h.grow (fun k hk e => by have := HLB.out; omega))
    have HTL := Aside0.mk hv1
    have HONE := Aside0.mk (hf1.ones hv1)
    have HP1 := Aside0.mk (put1 y1 zVS TS)
    have HNEW := Aside0.mk (blk_new y1 (.cells zVS.toArray 47))
    have HNB6 := Aside0.mk (show y1.heap.size ≠ b by have := HLB.out; have := hW.size; omega)
    clear hI hW hv1 hf1 HI1 HB4 HBX4
    have hbx : ((y1.alloc (.cells #[.slice none 0 0, .slice none 0 0, .slice none 0 0, .slice none 0 0, .slice none 0 0, .slice none 0 0, .slice none 0 0, .slice none 0 0] 47)).setRow y1.heap.size TS.toArray).heap[W.heap.size]? = some (.cells #[.int .i64 y.f0, .int .i64 y.f1, .int .i64 y.f2, .slice A3 y.f3.length c3, .slice A4 y.f4.length c4] 35 (0, 0)) := blk_below HBX5.out HP1.out.1
    have b0 := blk_cell hbx 0
    have b1 := blk_cell hbx 1
    have b2 := blk_cell hbx 2
    have b3 := blk_cell hbx 3
    have b4 := blk_cell hbx 4
    rw [show (#[.int .i64 y.f0, .int .i64 y.f1, .int .i64 y.f2, .slice A3 y.f3.length c3, .slice A4 y.f4.length c4] : Array Value)[0]? = some (.int .i64 y.f0) from rfl] at b0
    rw [show (#[.int .i64 y.f0, .int .i64 y.f1, .int .i64 y.f2, .slice A3 y.f3.length c3, .slice A4 y.f4.length c4] : Array Value)[1]? = some (.int .i64 y.f1) from rfl] at b1
    rw [show (#[.int .i64 y.f0, .int .i64 y.f1, .int .i64 y.f2, .slice A3 y.f3.length c3, .slice A4 y.f4.length c4] : Array Value)[2]? = some (.int .i64 y.f2) from rfl] at b2
    rw [show (#[.int .i64 y.f0, .int .i64 y.f1, .int .i64 y.f2, .slice A3 y.f3.length c3, .slice A4 y.f4.length c4] : Array Value)[3]? = some (.slice A3 y.f3.length c3) from rfl] at b3
    rw [show (#[.int .i64 y.f0, .int .i64 y.f1, .int .i64 y.f2, .slice A3 y.f3.length c3, .slice A4 y.f4.length c4] : Array Value)[4]? = some (.slice A4 y.f4.length c4) from rfl] at b4
    clear hbx
    go_wp2_with ((with_reducible refine gate_ (.store 47 (.tmp 6) (.tmp 24)) rfl ?_); refine wpList_store_row (P := Try.prog) rfl 47 (.tmp 6) (.tmp 24) rfl y1.heap.size TS.toArray rfl rfl 47 zVS.toArray HNEW.out (by rw [List.size_toArray, HTL.out]; kernel_rfl) (by rw [List.size_toArray, List.size_toArray, HTL.out]; rfl) HONE.out ?_)
    obtain ⟨y2, hy2⟩ : ∃ y2, (y1.alloc (.cells #[.slice none 0 0, .slice none 0 0, .slice none 0 0, .slice none 0 0, .slice none 0 0, .slice none 0 0, .slice none 0 0, .slice none 0 0] 47)).setRow y1.heap.size TS.toArray = y2 := ⟨_, rfl⟩
    rw [hy2]
    have HQ1 := Aside0.mk (show Below y1.heap.size y1 y2 ∧ y2.heap[y1.heap.size]? = some (.cells TS.toArray 47 (0, 0)) by rw [← hy2]; exact HP1.out)
    clear hy2 HP1 HNEW HONE
    have HI3 := Aside0.mk (HI2.out.below HQ1.out.1)
    have HB6 := Aside0.mk (below_step HB5.out HQ1.out.1)
    have HBX6 := Aside0.mk (blk_below HBX5.out HQ1.out.1)
    have HT6 := Aside0.mk (HT.out.map fun v xs h => h.below HQ1.out.1)
    have HR6 := Aside0.mk HQ1.out.2
    clear HT HQ1 HI2 HB5 HBX5 b0 b1 b2 b3 b4
    have HR3 := Aside0.mk ((Rw.came (G := fun k => k = b) HG3.out.2 HG3.out.1 (fun k hk => hk ▸ HG.out)).below HB6.out)
    have HR4 := Aside0.mk ((Rw.came (G := fun k => k = b) HG4.out.2 HG4.out.1 (fun k hk => hk ▸ HG.out)).below HB6.out)
    refine (does_calls _ b s1 (toDd y) _ _ _ HI3.out HOK1.out (HGY.out.ok (HSM.out.2.2 y (List.mem_singleton.2 rfl))) HR3.out HR4.out).mono ?_
    rintro e y3 ⟨rfl, hI, hW⟩
    have HI4 := Aside0.mk hI
    have HOK2 := Aside0.mk (HOK1.out.does (toDd y) (HGY.out.ok (HSM.out.2.2 y (List.mem_singleton.2 rfl))))
    have HRM2 := Aside0.mk (show (doesP s1 (toDd y)).1.room ≠ 0 by rw [does_room]; exact HRM1.out)
    have HAP := Aside0.mk (fun h1 h2 (j : Nat) h3 => apart (j := j) HOK1.out (toDd y) h1 h2 h3)
    have HB7 := Aside0.mk (hW.below HB6.out HG.out)
    have HBX7 := Aside0.mk ((hW.block _ (blk_lt HBX6.out) HNB.out).trans HBX6.out)
    have HR7 := Aside0.mk ((hW.block _ (blk_lt HR6.out) HNB6.out).trans HR6.out)
    have HT7 := Aside0.mk (HT6.out.map fun v xs h => h.wr hW rfl)
    clear hI hW HI3 HB6 HBX6 HR6 HT6 HR3 HR4
    generalize (doesP s1 (toDd y)).1 = s2 at *
    generalize (doesP s1 (toDd y)).2 = er2 at *
    go_wp2_with (fail)
    refine (Read_calls _ b s2 0 _ HI4.out HOK2.out.1).mono ?_
    rintro e y4 ⟨v, rfl, hR, hb8⟩
    clear hR
    have HI5 := Aside0.mk (HI4.out.below hb8)
    have HB8 := Aside0.mk (below_step HB7.out hb8)
    have HBX8 := Aside0.mk (blk_below HBX7.out hb8)
    have HR8 := Aside0.mk (blk_below HR7.out hb8)
    have HT8 := Aside0.mk (HT7.out.map fun v xs h => h.below hb8)
    clear hb8 HI4 HB7 HBX7 HR7 HT7
    by_cases off : s2.off = true
    · rw [read_off HRM2.out off]
      go_wp2_with (fail)
      refine (awake_calls _).mono ?_
      rintro e z1 ⟨rfl, hb7⟩
      have HZ := Aside0.mk (below_step HB8.out hb7)
      clear hb7
      go_wp2_with (fail)
      go_ret
      exact ⟨rfl, HZ.out⟩
    · have off2 : s2.off = false := by simpa using off
      have hrd := read_on HRM2.out off2 (i := 0) (by decide)
      rw [show ((0 : Nat) : Int) = 0 from rfl] at hrd
      rw [hrd]
      clear hrd
      by_cases e50 : er2 = 50
      · subst e50
        go_wp2_with (fail)
        refine (awake_calls _).mono ?_
        rintro e z1 ⟨rfl, hb7⟩
        have HZ := Aside0.mk (below_step HB8.out hb7)
        clear hb7
        go_wp2_with (fail)
        go_ret
        exact ⟨rfl, HZ.out⟩
      · have t50 : (er2 == 50) = false := by simpa using e50
        have HAS := Aside0.mk (HAP.out e50 off2)
        clear e50 off off2 HAP
        go_wp2_with (fail)
        refine (files_calls _ b s2 _ HI5.out HOK2.out).mono ?_
        rintro e y6 ⟨NS, rfl, hv1, hf1, hI, hW⟩
        have HB9 := Aside0.mk (hW.below HB8.out HG.out)
        have HBX9 := Aside0.mk ((hW.block _ (blk_lt HBX8.out) HNB.out).trans HBX8.out)
        have HR9 := Aside0.mk ((hW.block _ (blk_lt HR8.out) HNB6.out).trans HR8.out)
        have HT9 := Aside0.mk (show FRows (fun _ => False) 8 y6 TS (fun j => (fl s1 j).seen) from HT8.out.map fun v xs h => (h.wr hW rfl).grow (fun _ _ e => e.elim))
        have HN9 := Aside0.mk (show FRows (fun _ => False) 8 y6 NS (fun j => (fl s2 j).seen) from fun j hj => by
          have h := hf1 j hj
          rw [filesP_start hj HRM2.out] at h
          exact h.grow (fun _ _ e => e.elim))
        have HNL := Aside0.mk hv1
        have HONE := Aside0.mk (hf1.ones hv1)
        have HP1 := Aside0.mk (put1 y6 zVS NS)
        have HNEW := Aside0.mk (blk_new y6 (.cells zVS.toArray 47))
        clear hI hW hv1 hf1 HI5 HB8 HBX8 HR8 HT8
        go_wp2_with ((with_reducible refine gate_ (.store 47 (.tmp 10) (.tmp 41)) rfl ?_); refine wpList_store_row (P := Try.prog) rfl 47 (.tmp 10) (.tmp 41) rfl y6.heap.size NS.toArray rfl rfl 47 zVS.toArray HNEW.out (by rw [List.size_toArray, HNL.out]; kernel_rfl) (by rw [List.size_toArray, List.size_toArray, HNL.out]; rfl) HONE.out ?_)
        obtain ⟨y7, hy7⟩ : ∃ y7, (y6.alloc (.cells #[.slice none 0 0, .slice none 0 0, .slice none 0 0, .slice none 0 0, .slice none 0 0, .slice none 0 0, .slice none 0 0, .slice none 0 0] 47)).setRow y6.heap.size NS.toArray = y7 := ⟨_, rfl⟩
        rw [hy7]
        have HQ1 := Aside0.mk (show Below y6.heap.size y6 y7 ∧ y7.heap[y6.heap.size]? = some (.cells NS.toArray 47 (0, 0)) by rw [← hy7]; exact HP1.out)
        clear hy7 HP1 HNEW HONE
        have HX10 := Aside0.mk HQ1.out.2
        have HX6 := Aside0.mk (blk_below HR9.out HQ1.out.1)
        have HXB := Aside0.mk (blk_below HBX9.out HQ1.out.1)
        have HBd := Aside0.mk (below_step HB9.out HQ1.out.1)
        have HT := Aside0.mk (HT9.out.map fun v xs h => h.below HQ1.out.1)
        have HN := Aside0.mk (HN9.out.map fun v xs h => h.below HQ1.out.1)
        clear HQ1 HT9 HN9 HBX9 HR9 HB9
        go_loopw [42] (fun v42 wr => ∃ i : Nat, i ≤ 8 ∧ v42 = .int .i64 (i : Int) ∧ Aside0 (Below y7.heap.size y7 wr)) (fun v42 _ => (8 - intOf v42).toNat)
        case atStart => exact ⟨0, by omega, rfl, ⟨Below.refl _ _⟩⟩
        case round =>
          obtain ⟨i, hi, rfl, HW⟩ := hrel
          by_cases hlt : i < 8
          · have hb1 := (blk_cell (blk_below HXB.out HW.out) 1)
            rw [show (#[.int .i64 y.f0, .int .i64 y.f1, .int .i64 y.f2, .slice A3 y.f3.length c3, .slice A4 y.f4.length c4] : Array Value)[1]? = some (.int .i64 y.f1) from rfl] at hb1
            by_cases hne : (i : Int) = y.f1
            · have d1 : ((i : Int) != y.f1) = false := by simpa using hne
              generalize y.f1 = ki at *
              go_wp2_with (fail)
              refine start_ (n := 14) (S := fun w' => w'.cell? ⟨W.heap.size, 1, none⟩ = some (.int .i64 ki)) (ds := []) #[false, false, false, false, false, false, false, false, false, false, false, false, false, false] (by kernel_rfl) rfl rfl (hb1) (fun hHeld => ?_)
              refine pure_ (i := 0) (N := some 45) (v := ?_) (a' := ?_) #[true, false, false, false, false, false, false, false, false, false, false, false, false, false] rfl rfl (by kernel_rfl) (fun _ _ _ h => h) (Or.inl ⟨by rfl, ?_⟩) ?_ ?_
              rotate_left
              · intro w'
                go_simp
                with_reducible rfl
              rotate_left
              · simp only [Act.put, List.setIfInBounds_toArray, List.set_cons_zero, List.set_cons_succ, i64_w, i32_w]
                rfl
              refine pure_ (i := 1) (N := some 46) (v := ?_) (a' := ?_) #[true, true, false, false, false, false, false, false, false, false, false, false, false, false] rfl rfl (by kernel_rfl) (fun _ _ _ h => h) (Or.inl ⟨by rfl, ?_⟩) ?_ ?_
              rotate_left
              · intro w'
                go_simp
                with_reducible rfl
              rotate_left
              · simp only [Act.put, List.setIfInBounds_toArray, List.set_cons_zero, List.set_cons_succ, i64_w, i32_w]
                rfl
              refine take_ (i := 2) (N := some 47) (v := ?_) (a' := ?_) #[true, true, true, false, false, false, false, false, false, false, false, false, false, false] rfl rfl (by kernel_rfl) (fun _ _ _ h => h) (Or.inl ⟨by rfl, ?_⟩) hHeld ?_ ?_
              rotate_left
              · intro w' s0
                go_simp
                with_reducible rfl
              rotate_left
              · simp only [Act.put, List.setIfInBounds_toArray, List.set_cons_zero, List.set_cons_succ, i64_w, i32_w]
                rfl
              refine pure_ (i := 3) (N := some 48) (v := ?_) (a' := ?_) #[true, true, true, true, false, false, false, false, false, false, false, false, false, false] rfl rfl (by kernel_rfl) (fun _ _ _ h => h) (Or.inl ⟨by rfl, ?_⟩) ?_ ?_
              rotate_left
              · intro w'
                go_simp
                with_reducible rfl
              rotate_left
              · simp only [Act.put, List.setIfInBounds_toArray, List.set_cons_zero, List.set_cons_succ, i64_w, i32_w]
                rfl
              refine pure_ (i := 4) (N := some 49) (v := ?_) (a' := ?_) #[true, true, true, true, true, false, false, false, false, false, false, false, false, false] rfl rfl (by kernel_rfl) (fun _ _ _ h => h) (Or.inl ⟨by rfl, ?_⟩) ?_ ?_
              rotate_left
              · intro w'
                go_simp
                with_reducible rfl
              rotate_left
              · simp only [Act.put, List.setIfInBounds_toArray, List.set_cons_zero, List.set_cons_succ, i64_w, i32_w]
                rfl
              refine pure_ (i := 5) (N := some 50) (v := undef) (a' := ?_) #[true, true, true, true, true, true, false, false, false, false, false, false, false, false] rfl rfl (by kernel_rfl) (fun _ _ _ h => h) (Or.inr ⟨by rfl, rfl⟩) ?_ ?_
              rotate_left
              · simp only [Act.put, List.setIfInBounds_toArray, List.set_cons_zero, List.set_cons_succ, i64_w, i32_w]
                rfl
              refine pure_ (i := 6) (N := some 51) (v := undef) (a' := ?_) #[true, true, true, true, true, true, true, false, false, false, false, false, false, false] rfl rfl (by kernel_rfl) (fun _ _ _ h => h) (Or.inr ⟨by rfl, rfl⟩) ?_ ?_
              rotate_left
              · simp only [Act.put, List.setIfInBounds_toArray, List.set_cons_zero, List.set_cons_succ, i64_w, i32_w]
                rfl
              refine pure_ (i := 7) (N := some 52) (v := undef) (a' := ?_) #[true, true, true, true, true, true, true, true, false, false, false, false, false, false] rfl rfl (by kernel_rfl) (fun _ _ _ h => h) (Or.inr ⟨by rfl, rfl⟩) ?_ ?_
              rotate_left
              · simp only [Act.put, List.setIfInBounds_toArray, List.set_cons_zero, List.set_cons_succ, i64_w, i32_w]
                rfl
              refine pure_ (i := 8) (N := some 53) (v := undef) (a' := ?_) #[true, true, true, true, true, true, true, true, true, false, false, false, false, false] rfl rfl (by kernel_rfl) (fun _ _ _ h => h) (Or.inr ⟨by rfl, rfl⟩) ?_ ?_
              rotate_left
              · simp only [Act.put, List.setIfInBounds_toArray, List.set_cons_zero, List.set_cons_succ, i64_w, i32_w]
                rfl
              refine pure_ (i := 9) (N := some 54) (v := undef) (a' := ?_) #[true, true, true, true, true, true, true, true, true, true, false, false, false, false] rfl rfl (by kernel_rfl) (fun _ _ _ h => h) (Or.inr ⟨by rfl, rfl⟩) ?_ ?_
              rotate_left
              · simp only [Act.put, List.setIfInBounds_toArray, List.set_cons_zero, List.set_cons_succ, i64_w, i32_w]
                rfl
              refine pure_ (i := 10) (N := some 55) (v := undef) (a' := ?_) #[true, true, true, true, true, true, true, true, true, true, true, false, false, false] rfl rfl (by kernel_rfl) (fun _ _ _ h => h) (Or.inr ⟨by rfl, rfl⟩) ?_ ?_
              rotate_left
              · simp only [Act.put, List.setIfInBounds_toArray, List.set_cons_zero, List.set_cons_succ, i64_w, i32_w]
                rfl
              refine pure_ (i := 11) (N := some 56) (v := undef) (a' := ?_) #[true, true, true, true, true, true, true, true, true, true, true, true, false, false] rfl rfl (by kernel_rfl) (fun _ _ _ h => h) (Or.inr ⟨by rfl, rfl⟩) ?_ ?_
              rotate_left
              · simp only [Act.put, List.setIfInBounds_toArray, List.set_cons_zero, List.set_cons_succ, i64_w, i32_w]
                rfl
              refine pure_ (i := 12) (N := some 57) (v := undef) (a' := ?_) #[true, true, true, true, true, true, true, true, true, true, true, true, true, false] rfl rfl (by kernel_rfl) (fun _ _ _ h => h) (Or.inr ⟨by rfl, rfl⟩) ?_ ?_
              rotate_left
              · simp only [Act.put, List.setIfInBounds_toArray, List.set_cons_zero, List.set_cons_succ, i64_w, i32_w]
                rfl
              refine pure_ (i := 13) (N := some 58) (v := ?_) (a' := ?_) #[true, true, true, true, true, true, true, true, true, true, true, true, true, true] rfl rfl (by kernel_rfl) (fun _ _ _ h => h) (Or.inl ⟨by rfl, ?_⟩) ?_ ?_
              rotate_left
              · intro w'
                go_simp
                with_reducible rfl
              rotate_left
              · simp only [Act.put, List.setIfInBounds_toArray, List.set_cons_zero, List.set_cons_succ, i64_w, i32_w]
                rfl
              refine done_ (by kernel_rfl) ?_

              go_wp2_with (fail)
              go_roundw
              case rel => exact ⟨i + 1, by omega, by go_num, ⟨by repeat (first | exact HW.out | (with_reducible refine pw_below_drewN ?_ _) | (with_reducible refine below_drew1 ?_))⟩⟩
              case measure => simp [intOf]; omega
            · have d1 : ((i : Int) != y.f1) = true := by simpa using hne
              have hx := (blk_cell (blk_below HX6.out HW.out) i).trans (mem_getD (d := nilV) (by rw [HTL.out]; exact hlt))
              have hy := (blk_cell (blk_below HX10.out HW.out) i).trans (mem_getD (d := nilV) (by rw [HNL.out]; exact hlt))
              obtain ⟨A, c1, e1, lc1, gc1⟩ := (show Rw (fun _ => False) .u8 y7 (TS.getD i nilV) (fl s1 i).seen from HT.out i hlt).slice
              obtain ⟨B, d, e2, lc2, gc2⟩ := (show Rw (fun _ => False) .u8 y7 (NS.getD i nilV) (fl s2 i).seen from HN.out i hlt).slice
              rw [← HAS.out i hne] at e1 lc1 gc1
              rw [e1] at hx
              rw [e2] at hy
              have HC0 := Aside0.mk (Kd.C_below gc1 HW.out)
              have HC1 := Aside0.mk (Kd.C_below gc2 HW.out)
              have HEQ := Aside0.mk (fun W' h1 h2 => Equal_same B d A c1 (fl s2 i).seen W' h1 lc2 h2 lc1)
              clear e1 e2 gc1 gc2 lc1 lc2
              generalize (fl s2 i).seen = N at *
              generalize y.f1 = ki at *
              generalize N.length = m at *
              go_wp2_with (fail)
              refine start_ (n := 14) (S := fun w' => w'.cell? ⟨W.heap.size, 1, none⟩ = some (.int .i64 ki) ∧ w'.cell? ⟨y6.heap.size, i, none⟩ = some (.slice B m d) ∧ w'.cell? ⟨y1.heap.size, i, none⟩ = some (.slice A m c1) ∧ Kd.C (Kd.int .u8) w' B m N ∧ Kd.C (Kd.int .u8) w' A m N) (ds := []) #[false, false, false, false, false, false, false, false, false, false, false, false, false, false] (by kernel_rfl) rfl rfl ⟨hb1, hy, hx, Kd.C_drew HC1.out, Kd.C_drew HC0.out⟩ (fun hHeld => ?_)
              refine pure_ (i := 0) (N := some 45) (v := ?_) (a' := ?_) #[true, false, false, false, false, false, false, false, false, false, false, false, false, false] rfl rfl (by kernel_rfl) (fun _ _ _ h => h) (Or.inl ⟨by rfl, ?_⟩) ?_ ?_
              rotate_left
              · intro w'
                go_simp
                with_reducible rfl
              rotate_left
              · simp only [Act.put, List.setIfInBounds_toArray, List.set_cons_zero, List.set_cons_succ, i64_w, i32_w]
                rfl
              refine pure_ (i := 1) (N := some 46) (v := ?_) (a' := ?_) #[true, true, false, false, false, false, false, false, false, false, false, false, false, false] rfl rfl (by kernel_rfl) (fun _ _ _ h => h) (Or.inl ⟨by rfl, ?_⟩) ?_ ?_
              rotate_left
              · intro w'
                go_simp
                with_reducible rfl
              rotate_left
              · simp only [Act.put, List.setIfInBounds_toArray, List.set_cons_zero, List.set_cons_succ, i64_w, i32_w]
                rfl
              refine take_ (i := 2) (N := some 47) (v := ?_) (a' := ?_) #[true, true, true, false, false, false, false, false, false, false, false, false, false, false] rfl rfl (by kernel_rfl) (fun _ _ _ h => h) (Or.inl ⟨by rfl, ?_⟩) hHeld ?_ ?_
              rotate_left
              · rintro w' ⟨s0, s1, s2, s3, s4⟩
                go_simp
                with_reducible rfl
              rotate_left
              · simp only [Act.put, List.setIfInBounds_toArray, List.set_cons_zero, List.set_cons_succ, i64_w, i32_w]
                rfl
              refine pure_ (i := 3) (N := some 48) (v := ?_) (a' := ?_) #[true, true, true, true, false, false, false, false, false, false, false, false, false, false] rfl rfl (by kernel_rfl) (fun _ _ _ h => h) (Or.inl ⟨by rfl, ?_⟩) ?_ ?_
              rotate_left
              · intro w'
                go_simp
                with_reducible rfl
              rotate_left
              · simp only [Act.put, List.setIfInBounds_toArray, List.set_cons_zero, List.set_cons_succ, i64_w, i32_w]
                rfl
              refine pure_ (i := 4) (N := some 49) (v := ?_) (a' := ?_) #[true, true, true, true, true, false, false, false, false, false, false, false, false, false] rfl rfl (by kernel_rfl) (fun _ _ _ h => h) (Or.inl ⟨by rfl, ?_⟩) ?_ ?_
              rotate_left
              · intro w'
                go_simp
                with_reducible rfl
              rotate_left
              · simp only [Act.put, List.setIfInBounds_toArray, List.set_cons_zero, List.set_cons_succ, i64_w, i32_w]
                rfl
              refine pure_ (i := 5) (N := some 50) (v := ?_) (a' := ?_) #[true, true, true, true, true, true, false, false, false, false, false, false, false, false] rfl rfl (by kernel_rfl) (fun _ _ _ h => h) (Or.inl ⟨by rfl, ?_⟩) ?_ ?_
              rotate_left
              · intro w'
                go_simp
                with_reducible rfl
              rotate_left
              · simp only [Act.put, List.setIfInBounds_toArray, List.set_cons_zero, List.set_cons_succ, i64_w, i32_w]
                rfl
              refine pure_ (i := 6) (N := some 51) (v := ?_) (a' := ?_) #[true, true, true, true, true, true, true, false, false, false, false, false, false, false] rfl rfl (by kernel_rfl) (fun _ _ _ h => h) (Or.inl ⟨by rfl, ?_⟩) ?_ ?_
              rotate_left
              · intro w'
                go_simp
                with_reducible rfl
              rotate_left
              · simp only [Act.put, List.setIfInBounds_toArray, List.set_cons_zero, List.set_cons_succ, i64_w, i32_w]
                rfl
              refine pure_ (i := 8) (N := some 53) (v := ?_) (a' := ?_) #[true, true, true, true, true, true, true, false, true, false, false, false, false, false] rfl rfl (by kernel_rfl) (fun _ _ _ h => h) (Or.inl ⟨by rfl, ?_⟩) ?_ ?_
              rotate_left
              · intro w'
                go_simp
                with_reducible rfl
              rotate_left
              · simp only [Act.put, List.setIfInBounds_toArray, List.set_cons_zero, List.set_cons_succ, i64_w, i32_w]
                rfl
              refine pure_ (i := 9) (N := some 54) (v := ?_) (a' := ?_) #[true, true, true, true, true, true, true, false, true, true, false, false, false, false] rfl rfl (by kernel_rfl) (fun _ _ _ h => h) (Or.inl ⟨by rfl, ?_⟩) ?_ ?_
              rotate_left
              · intro w'
                go_simp
                with_reducible rfl
              rotate_left
              · simp only [Act.put, List.setIfInBounds_toArray, List.set_cons_zero, List.set_cons_succ, i64_w, i32_w]
                rfl
              refine take_ (i := 7) (N := some 52) (v := ?_) (a' := ?_) #[true, true, true, true, true, true, true, true, true, true, false, false, false, false] rfl rfl (by kernel_rfl) (fun _ _ _ h => h) (Or.inl ⟨by rfl, ?_⟩) hHeld ?_ ?_
              rotate_left
              · rintro w' ⟨s0, s1, s2, s3, s4⟩
                go_simp
                with_reducible rfl
              rotate_left
              · simp only [Act.put, List.setIfInBounds_toArray, List.set_cons_zero, List.set_cons_succ, i64_w, i32_w]
                rfl
              refine take_ (i := 10) (N := some 55) (v := ?_) (a' := ?_) #[true, true, true, true, true, true, true, true, true, true, true, false, false, false] rfl rfl (by kernel_rfl) (fun _ _ _ h => h) (Or.inl ⟨by rfl, ?_⟩) hHeld ?_ ?_
              rotate_left
              · rintro w' ⟨s0, s1, s2, s3, s4⟩
                go_simp
                with_reducible rfl
              rotate_left
              · simp only [Act.put, List.setIfInBounds_toArray, List.set_cons_zero, List.set_cons_succ, i64_w, i32_w]
                rfl
              refine one_ (i := 11) (N := some 56) #[true, true, true, true, true, true, true, true, true, true, true, true, false, false] rfl rfl (by kernel_rfl) (by decide) (fun K hK => ?_)
              refine goes_ Try.func23 (by kernel_rfl) rfl #[.slice B m d, .slice A m c1] (by rfl) rfl rfl (by first | rfl | (simp; done) | (simp only [List.map_toArray, List.map_cons, List.map_nil]; rfl)) ?_
              with_reducible refine (HEQ.out _ hHeld.2.2.2.1 hHeld.2.2.2.2).mono ?_
              rintro e w4 ⟨rfl, ⟨nd1, rfl⟩⟩
              refine ⟨_, rfl, ?_⟩
              refine hK.out _ _ ⟨hHeld.1, hHeld.2.1, hHeld.2.2.1, Kd.C_drewN hHeld.2.2.2.1 nd1, Kd.C_drewN hHeld.2.2.2.2 nd1⟩ (fun hHeld => ?_)
              clear hK K
              refine norm_ (a' := ?_) ?_ ?_
              rotate_left
              · show Act.put _ (some 56) _ = _
                simp only [Act.put, List.setIfInBounds_toArray, List.set_cons_zero, List.set_cons_succ, i64_w, i32_w]
                rfl
              refine pure_ (i := 12) (N := some 57) (v := ?_) (a' := ?_) #[true, true, true, true, true, true, true, true, true, true, true, true, true, false] rfl rfl (by kernel_rfl) (fun _ _ _ h => h) (Or.inl ⟨by rfl, ?_⟩) ?_ ?_
              rotate_left
              · intro w'
                go_simp
                with_reducible rfl
              rotate_left
              · simp only [Act.put, List.setIfInBounds_toArray, List.set_cons_zero, List.set_cons_succ, i64_w, i32_w]
                rfl
              refine pure_ (i := 13) (N := some 58) (v := ?_) (a' := ?_) #[true, true, true, true, true, true, true, true, true, true, true, true, true, true] rfl rfl (by kernel_rfl) (fun _ _ _ h => h) (Or.inl ⟨by rfl, ?_⟩) ?_ ?_
              rotate_left
              · intro w'
                go_simp
                with_reducible rfl
              rotate_left
              · simp only [Act.put, List.setIfInBounds_toArray, List.set_cons_zero, List.set_cons_succ, i64_w, i32_w]
                rfl
              refine done_ (by kernel_rfl) ?_

              go_wp2_with (fail)
              go_roundw
              case rel => exact ⟨i + 1, by omega, by go_num, ⟨by repeat (first | exact HW.out | (with_reducible refine pw_below_drewN ?_ _) | (with_reducible refine below_drew1 ?_))⟩⟩
              case measure => simp [intOf]; omega
          · obtain rfl : i = 8 := by omega
            rw [show ((8 : Nat) : Int) = 8 from rfl]
            go_wp2_with (fail)
            refine (awake_calls _).mono ?_
            rintro e z1 ⟨rfl, hb7⟩
            have HZ := Aside0.mk (below_step (below_step HBd.out HW.out) hb7)
            clear hb7
            go_wp2_with (fail)
            go_ret
            exact ⟨rfl, HZ.out⟩
end Go.Proofs.Ytnnkohddhiecoaa.Wk
