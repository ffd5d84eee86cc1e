/- The reference's Unpack: the fields of a word, bit by bit. -/
import Derived.Test.YtjkllkbdmkkndaaPkC
import Derived.Test.YtjkllkbdmkkndaaPlainC
namespace Go.Proofs.Ytjkllkbdmkkndaa.Pk
open Go Go.RowKit Go.Proofs.YtjkllkbdmkkndaaW.PrintWords Go.Proofs.YtjkllkbdmkkndaaW.PrintLast Go.Proofs.YtjkllkbdmkkndaaW.PrintMore Go.Proofs.Ytjkllkbdmkkndaa.Bits Go.Proofs.Ytjkllkbdmkkndaa.Ref
open Go.Proofs.Ytjkllkbdmkkndaa.PMaskUnpacks
attribute [local go_sem] max2_int min2_int max_two min_two
set_option linter.unusedVariables false
set_option linter.unusedSimpArgs false
theorem high_zero {z a : Nat} (h : ∀ m, a ≤ m → m < 64 → z.testBit m = false) (hz : z < 2 ^ 64) : z / 2 ^ a = 0 := by
  apply Nat.eq_of_testBit_eq
  intro i
  rw [Nat.testBit_div_two_pow, Nat.zero_testBit]
  by_cases c : i + a < 64
  · exact h _ (by omega) c
  · exact Nat.testBit_lt_two_pow (Nat.lt_of_lt_of_le hz (Nat.pow_le_pow_right (by decide) (by omega)))
theorem high_some {z a m : Nat} (ha : a ≤ m) (hb : z.testBit m = true) : ¬ z / 2 ^ a = 0 := by
  intro h
  have : (z / 2 ^ a).testBit (m - a) = true := by rw [Nat.testBit_div_two_pow, show m - a + a = m by omega]; exact hb
  rw [h, Nat.zero_testBit] at this; cases this
set_option maxHeartbeats 16000000 in
set_option maxRecDepth 100000 in
theorem RUnpack_calls (z : Nat) (hz : z < 2 ^ 64) (A0 : Option Addr) (c0 : Nat) (l : List S56) (hl : l.length ≤ 500) (w : World) (hr0 : Kd.C k56 w A0 l.length l) (hc0 : l.length ≤ c0) :
    Calls Try.prog 51 #[.int .u64 (z : Int), .slice A0 l.length c0] w fun e w' => ∃ v0_ : Value, e = .returned (.tuple #[v0_, .int .i64 (resU (unpackR z l 0 [])).2]) ∧ Kd.R k56 56 w' w.heap.size (fun _ => True) v0_ (resU (unpackR z l 0 [])).1 ∧ Below w.heap.size w w' := by
  have hu56 := Try.underlying56
  have HR0 := Aside0.mk hr0
  have HZ := Aside0.mk hz
  clear hr0 hz
  obtain ⟨r, hr⟩ : ∃ r, unpackR z l 0 [] = r := ⟨_, rfl⟩
  rw [hr]
  have HP := Aside0.mk hr
  clear hr
  go_enter Try.func51, Try.ntmps51
  go_wp2_with (fail)
  refine (From_calls z HZ.out _).mono ?_
  rintro e w1 ⟨rfl, hb⟩
  have HB1 := Aside0.mk hb
  clear hb
  go_wp2_with (first | ((with_reducible refine gate_dst (N := 6) rfl ?_); refine box_event ?hg (N := 6) ?hd (cs := bl 0) (t := 25) ?hr ?_; (case hd => rfl); (case hg => rfl); (case hr => first | (go_simp; done) | (go_simp; rfl) | (rw [bl_zero]; go_simp; done) | (rw [bl_zero]; go_simp; rfl)); intro g6 hgb w2 hbox hb; have HB2 := Aside0.mk (below_step HB1.out hb); have H2 := Aside0.mk hbox; have G6 := Aside0.mk (show w.heap.size ≤ g6 by rw [hgb]; exact HB1.out.size); clear hb hbox hgb) | (refine wpList_store_rowTo rfl 25 (.tmp 6) (.tmp 15) rfl rfl g6 (bl z) rfl rfl 25 _ H2.out (bl_info _) (by rw [bl_size, bl_size]) (bl_one _) ?_))
  have HB3 := Aside0.mk (below_setRow HB2.out G6.out (bl z))
  have H3 := Aside0.mk (setRow_heap w2 g6 (bl 0) (bl z) 25 (0, 0) H2.out)
  clear HB2 H2 HB1
  generalize w2.setRow g6 (bl z) = w3 at *
  clear w2
  go_loopw [7, 8, 18] (fun v7 v8 v18 wr => ∃ (j a : Nat) (acc : List S56), j ≤ l.length ∧ a ≤ 64 ∧ v8 = .int .i64 (a : Int) ∧ v18 = .int .i64 (j : Int) ∧ Aside0 (acc.length ≤ j) ∧ Aside0 (unpackR z (l.drop j) a acc = r) ∧ Aside0 (Kd.R k56 56 wr w.heap.size (fun k => k ≠ g6) v7 acc) ∧ Aside0 (wr.heap[g6]? = some (.cells (bl z) 25 (0, 0))) ∧ Aside0 (Below w.heap.size w wr)) (fun _ _ v18 _ => (l.length - intOf v18).toNat)
  case atStart => exact ⟨0, 0, [], by omega, by omega, rfl, rfl, ⟨by simp⟩, ⟨by rw [List.drop_zero]; exact HP.out⟩, ⟨Kd.R_nil _ _ _ _ _⟩, H3, HB3⟩
  case round =>
    clear HP HB3 H3
    obtain ⟨j, a, acc, hj, ha, rfl, rfl, HLA, HP, HO, H0, HB⟩ := hrel
    by_cases hlt : j < l.length
    · have HT := Aside0.mk (show l.drop j = l[j] :: l.drop (j + 1) from List.drop_eq_getElem_cons hlt)
      obtain ⟨ad, e0, hx0, hx1, hx2⟩ := at_T56 HR0.out (j : Int) (by omega) (by omega)
      cases e0
      replace hx0 := (HB.out.cell (World.block_lt_of_cell? w _ hx0)).trans hx0
      replace hx1 := (HB.out.cell (World.block_lt_of_cell? w _ hx1)).trans hx1
      replace hx2 := (HB.out.cell (World.block_lt_of_cell? w _ hx2)).trans hx2
      rw [rd_at l j hlt, Int.toNat_natCast] at hx0 hx1 hx2
      obtain ⟨f, hf⟩ : ∃ f, l[j] = f := ⟨_, rfl⟩
      rw [hf] at hx0 hx1 hx2 HT
      clear hf
      obtain ⟨b, v, s⟩ := f
      simp only at hx0 hx1 hx2
      have hpk : unpackR z (l.drop j) a acc = if 1 ≤ b ∧ b ≤ 64 - (a : Int) then (if s = false ∧ valR (z / 2 ^ a) b.toNat s < 0 then none else unpackR z (l.drop (j + 1)) (a + b.toNat) (acc ++ [⟨b, valR (z / 2 ^ a) b.toNat s, s⟩])) else none := by rw [HT.out]; rfl
      rw [HP.out] at hpk
      have HPK := Aside0.mk hpk
      clear hpk HP
      have HLA' := Aside0.mk (show acc.length ≤ 500 by have := HLA.out; omega)
      by_cases c1 : 1 ≤ b ∧ b ≤ 64 - (a : Int)
      · have d1 : decide (b < 1) = false := decide_eq_false (by omega)
        have d2 : decide (64 - (a : Int) < b) = false := decide_eq_false (by omega)
        obtain ⟨n, rfl⟩ := Int.eq_ofNat_of_zero_le (show 0 ≤ b by omega)
        have HE := Aside0.mk (HPK.out.trans (if_pos c1))
        rw [Int.toNat_natCast] at HE
        have hn1 : 1 ≤ n := by omega
        have hn2 : a + n ≤ 64 := by omega
        clear HPK c1
        go_wp2_with (first | ((with_reducible refine gate_dst (N := 10) rfl ?_); refine box_event ?hg (N := 10) ?hd (cs := #[.int .i64 0, .int .i64 0, .bool false]) (t := 56) ?hr ?_; (case hd => rfl); (case hg => rfl); (case hr => first | (go_simp; done) | (go_simp; rfl) | (rw [bl_zero]; go_simp; done) | (rw [bl_zero]; go_simp; rfl)); intro gb hgb w8 hbox hb; have n0_ := Aside0.mk (below_step HB.out hb); have n1_ := Aside0.mk hbox; have n2_ := Aside0.mk (show g6 < gb ∧ w.heap.size ≤ gb by rw [hgb]; exact ⟨blk_lt H0.out, HB.out.size⟩); have n3_ := Aside0.mk (blk_below H0.out hb); have n4_ := Aside0.mk (Kd.R_below HO.out hb); have n5_ := Aside0.mk (show some gb ≠ u7.ownBlock from fun e_ => by have h9 := Kd.R_lt HO.out _ e_.symm; omega); clear HB H0 HO; have HB := n0_; have BK := n1_; have GB := n2_; have H0 := n3_; have HO := n4_; have HGO := n5_; clear n0_ n1_ n2_ n3_ n4_ n5_ hb hbox hgb; have hcz0 : w8.cell? ⟨gb, 0, none⟩ = some (.int .i64 0) := (blk_cell BK.out 0).trans rfl; have hcz1 : w8.cell? ⟨gb, 1, none⟩ = some (.int .i64 0) := (blk_cell BK.out 1).trans rfl; have hcz2 : w8.cell? ⟨gb, 2, none⟩ = some (.bool false) := (blk_cell BK.out 2).trans rfl; have hfz0 := blk_frozen BK.out 0; have hfz1 := blk_frozen BK.out 1; have hfz2 := blk_frozen BK.out 2) | ((with_reducible refine gate_dst (N := 11) rfl ?_); refine box_event ?hg (N := 11) ?hd (cs := bl 0) (t := 25) ?hr ?_; (case hd => rfl); (case hg => rfl); (case hr => first | (go_simp; done) | (go_simp; rfl) | (rw [bl_zero]; go_simp; done) | (rw [bl_zero]; go_simp; rfl)); intro gc hgb w9 hbox hb; have BK1 := blk_put (cs' := #[.int .i64 (n : Int), .int .i64 v, .bool s]) (blk_put (cs' := #[.int .i64 (n : Int), .int .i64 v, .bool false]) (blk_put (cs' := #[.int .i64 (n : Int), .int .i64 0, .bool false]) BK.out 0 (.int .i64 (n : Int)) rfl) 1 (.int .i64 v) rfl) 2 (.bool s) rfl; have H1 := blk_far (blk_far (blk_far H0.out (p := ⟨gb, 0, none⟩) (by have := GB.out; show g6 ≠ gb; omega) (.int .i64 (n : Int))) (p := ⟨gb, 1, none⟩) (by have := GB.out; show g6 ≠ gb; omega) (.int .i64 v)) (p := ⟨gb, 2, none⟩) (by have := GB.out; show g6 ≠ gb; omega) (.bool s); have HB1 := ((HB.out.setCell (p := ⟨gb, 0, none⟩) GB.out.2 (.int .i64 (n : Int))).setCell (p := ⟨gb, 1, none⟩) GB.out.2 (.int .i64 v)).setCell (p := ⟨gb, 2, none⟩) GB.out.2 (.bool s); have HO1 := Kd.R_far (p := ⟨gb, 2, none⟩) (Kd.R_far (p := ⟨gb, 1, none⟩) (Kd.R_far (p := ⟨gb, 0, none⟩) (Kd.R_far1 HO.out rfl HGO.out) (fun k hk => hk.2) (.int .i64 (n : Int))) (fun k hk => hk.2) (.int .i64 v)) (fun k hk => hk.2) (.bool s); have n0_ := Aside0.mk (below_step HB1 hb); have n1_ := Aside0.mk (blk_below BK1 hb); have n2_ := Aside0.mk (show g6 < gc ∧ gb < gc ∧ w.heap.size ≤ gc by rw [hgb]; exact ⟨blk_lt H1, blk_lt BK1, HB1.size⟩); have n3_ := Aside0.mk (blk_below H1 hb); have n4_ := Aside0.mk (Kd.R_below HO1 hb); have n5_ := Aside0.mk hbox; have n6_ := Aside0.mk (show some gc ≠ u7.ownBlock from fun e_ => by have h9 := Kd.R_lt HO1 _ e_.symm; omega); clear HB H0 HO BK HO1 HB1 H1 BK1 hcz0 hcz1 hcz2 hfz0 hfz1 hfz2; have HB := n0_; have BK := n1_; have GC := n2_; have H0 := n3_; have HO := n4_; have BC := n5_; have HGC := n6_; clear n0_ n1_ n2_ n3_ n4_ n5_ n6_ hb hbox hgb; have hcb9 := (blk_cell BK.out 0).trans (show _ = some (Value.int .i64 (n : Int)) from rfl)))
        go_loopw [34] (fun v34 wr => ∃ i : Nat, i ≤ n ∧ v34 = .int .i64 (i : Int) ∧ Aside0 (wr.heap[gc]? = some (.cells (bl (z / 2 ^ a % 2 ^ i)) 25 (0, 0))) ∧ Aside0 (wr.heap[gb]? = some (.cells #[.int .i64 (n : Int), .int .i64 v, .bool s] 56 (0, 0))) ∧ Aside0 (wr.heap[g6]? = some (.cells (bl z) 25 (0, 0))) ∧ Aside0 (Kd.R k56 56 wr w.heap.size (fun k => (k ≠ g6 ∧ k ≠ gb) ∧ k ≠ gc) u7 acc) ∧ Aside0 (Below w.heap.size w wr)) (fun v34 _ => (n - intOf v34).toNat)
        case atStart => exact ⟨0, by omega, rfl, ⟨by rw [show z / 2 ^ a % 2 ^ 0 = 0 from Nat.mod_one _]; exact BC.out⟩, BK, H0, ⟨Kd.R_far1 HO.out rfl HGC.out⟩, HB⟩
        case round =>
          clear BC BK H0 HO HB
          obtain ⟨i, hi, rfl, BC, BK, H0, HO, HB⟩ := hrel
          by_cases hlt2 : i < n
          · have hia : a + i < 64 := by omega
            obtain ⟨p, hp⟩ : ∃ p, p = a + i := ⟨_, rfl⟩
            have hpc := (blk_cell H0.out p).trans (bl_get _ p (by omega))
            have hai : (a : Int) + (i : Int) = (p : Int) := by omega
            have hsi := (blk_cell BC.out i).trans (bl_get _ i (by omega))
            have hfi := blk_frozen BC.out i
            have hp64 : p < 64 := by omega
            have HPP := Aside0.mk (show (z / 2 ^ a).testBit i = z.testBit p by rw [Nat.testBit_div_two_pow, Nat.add_comm, ← hp])
            clear hp hia
            have HST := Aside0.mk (From_step (z / 2 ^ a) i (by omega))
            rw [HPP.out] at HST
            go_wp2
            go_roundw
            case rel => exact ⟨i + 1, by omega, rfl, ⟨by rw [← HST.out]; exact blk_set BC.out i _⟩, ⟨blk_far BK.out (by have := GC.out; show gb ≠ gc; omega) _⟩, ⟨blk_far H0.out (by have := GC.out; show g6 ≠ gc; omega) _⟩, ⟨Kd.R_far HO.out (fun k hk => hk.2) _⟩, ⟨HB.out.setCell GC.out.2.2 _⟩⟩
            case measure => simp [intOf]; omega
          · obtain rfl : n = i := by omega
            have HV := Aside0.mk (mod_lt_pow (z / 2 ^ a) n (by omega))
            have HVE : Aside0 (valR (z / 2 ^ a) n s = if s = true then signedOf (z / 2 ^ a % 2 ^ n) n else wrap64 ((z / 2 ^ a % 2 ^ n : Nat) : Int)) := ⟨rfl⟩
            obtain ⟨V, hV⟩ : ∃ V, z / 2 ^ a % 2 ^ n = V := ⟨_, rfl⟩
            rw [hV] at BC HV HVE
            clear hV
            have HN := Aside0.mk (show 1 ≤ n ∧ n ≤ 64 by omega)
            have hcn := (blk_cell BK.out 0).trans (show _ = some (Value.int .i64 (n : Int)) from rfl)
            go_wp2_with (first | (refine wpList_load_row rfl 25 (.tmp 11) rfl gc rfl 25 _ (0, 0) _ BC.out Try.underlying25 rfl (bl_info _) ?_))
            refine (Word_calls V HV.out _).mono ?_
            rintro e w4 ⟨rfl, hb⟩
            have n0_ := Aside0.mk (below_step HB.out hb)
            have n1_ := Aside0.mk (blk_below BC.out hb)
            have n2_ := Aside0.mk (blk_below BK.out hb)
            have n3_ := Aside0.mk (blk_below H0.out hb)
            have n4_ := Aside0.mk (Kd.R_below HO.out hb)
            clear HB BC BK H0 HO hcn hb
            have hcv4 := (blk_cell n2_.out 1).trans (show _ = some (Value.int .i64 v) from rfl)
            have hfv4 := blk_frozen n2_.out 1
            have hcn4 := (blk_cell n2_.out 0).trans (show _ = some (Value.int .i64 (n : Int)) from rfl)
            have hcs4 := (blk_cell n2_.out 2).trans (show _ = some (Value.bool s) from rfl)
            have HB := Aside0.mk (n0_.out.setCell (p := ⟨gb, 1, none⟩) GB.out.2 (.int .i64 (wrap64 (V : Int))))
            have BC := Aside0.mk (blk_far n1_.out (p := ⟨gb, 1, none⟩) (by have := GC.out; show gc ≠ gb; omega) (.int .i64 (wrap64 (V : Int))))
            have BK := Aside0.mk (blk_put (cs' := #[.int .i64 (n : Int), .int .i64 (wrap64 (V : Int)), .bool s]) n2_.out 1 (.int .i64 (wrap64 (V : Int))) rfl)
            have H0 := Aside0.mk (blk_far n3_.out (p := ⟨gb, 1, none⟩) (by have := GB.out; show g6 ≠ gb; omega) (.int .i64 (wrap64 (V : Int))))
            have HO := Aside0.mk (Kd.R_far (p := ⟨gb, 1, none⟩) (Kd.R_mono n4_.out (ok' := fun k => k ≠ g6 ∧ k ≠ gb) (fun k hk => hk.1)) (fun k hk => hk.2) (.int .i64 (wrap64 (V : Int))))
            clear n0_ n1_ n2_ n3_ n4_
            cases s with
            | true =>
              have HE2 := Aside0.mk (HE.out.trans (if_neg (fun h => absurd h.1 (by decide))))
              have HVX := Aside0.mk (HVE.out.trans (if_pos rfl))
              rw [HVX.out] at HE2
              clear HVE HVX HE
              go_wp2_with (fail)
              clear hcv4 hfv4 hcs4 hcn4
              generalize w4.setCell ⟨gb, 1, none⟩ (.int .i64 (wrap64 (V : Int))) = w5 at *
              clear w4
              have BC8 := BC
              have BK8 := BK
              have H8 := H0
              have HO8 := HO
              clear BC BK H0 HO
              refine start_ (n := 7) (S := fun w' => w'.heap[gc]? = some (.cells (bl V) 25 (0, 0)) ∧ (∃ u : Value, w'.heap[gb]? = some (.cells #[.int .i64 (n : Int), u, .bool true] 56 (0, 0))) ∧ w'.heap[g6]? = some (.cells (bl z) 25 (0, 0)) ∧ Kd.R k56 56 w' w.heap.size (fun k => k ≠ g6 ∧ k ≠ gb) u7 acc) (ds := []) #[false, false, false, false, false, false, false] (by kernel_rfl) rfl rfl ⟨BC8.out, ⟨_, BK8.out⟩, H8.out, HO8.out⟩ (fun hHeld => ?_)
              refine pure_ (i := 2) (N := some 57) (v := ?_) (a' := ?_) #[false, false, true, false, false, false, false] rfl rfl (by kernel_rfl) (fun _ _ _ h => h) (Or.inl ⟨by rfl, ?_⟩) ?_ ?_
              rotate_left
              · intro w'
                go_simp
                with_reducible rfl
              rotate_left
              · simp only [Act.put, List.setIfInBounds_toArray, List.set_cons_zero, List.set_cons_succ, i64_w, i32_w]
                rfl
              refine take_ (i := 0) (N := some 55) (v := ?_) (a' := ?_) #[true, false, true, false, false, false, false] rfl rfl (by kernel_rfl) (fun _ _ _ h => h) (Or.inl ⟨by rfl, ?_⟩) hHeld ?_ ?_
              rotate_left
              · rintro w' ⟨s0, s1, s2, s3⟩
                refine exec_load_row 25 (.tmp 11) ?_ gc ?_ 25 _ (0, 0) _ s0 Try.underlying25 rfl (bl_info _)
                · rfl
                · rfl
              rotate_left
              · simp only [Act.put, List.setIfInBounds_toArray, List.set_cons_zero, List.set_cons_succ, i64_w, i32_w]
                rfl
              refine take_ (i := 3) (N := some 58) (v := ?_) (a' := ?_) #[true, false, true, true, false, false, false] rfl rfl (by kernel_rfl) (fun _ _ _ h => h) (Or.inl ⟨by rfl, ?_⟩) hHeld ?_ ?_
              rotate_left
              · rintro w' ⟨s0, s1, s2, s3⟩
                obtain ⟨u_, s1⟩ := s1
                have hc_ := (blk_cell s1 0).trans (show _ = some (Value.int .i64 (n : Int)) from rfl)
                go_simp
                with_reducible rfl
              rotate_left
              · simp only [Act.put, List.setIfInBounds_toArray, List.set_cons_zero, List.set_cons_succ, i64_w, i32_w]
                rfl
              refine one_ (i := 1) (N := some 56) #[true, true, true, true, false, false, false] rfl rfl (by kernel_rfl) (by decide) (fun K hK => ?_)
              refine goes_ Try.func30 (by kernel_rfl) rfl #[setV V] (by rfl) rfl rfl (by first | rfl | (simp; done) | (simp only [List.map_toArray, List.map_cons, List.map_nil]; rfl)) ?_
              with_reducible refine (Word_calls V HV.out _).mono ?_
              rintro e w3 ⟨rfl, hb⟩
              refine ⟨_, rfl, ?_⟩
              have n0_ := Aside0.mk (below_step (by repeat (first | (with_reducible first | exact HB.out | apply below_alloc | apply pw_below_drewN | apply below_drew1) | exact HB.out)) hb)
              clear HB
              have HB := n0_
              clear n0_
              refine hK.out _ _ ⟨blk_below hHeld.1 hb, hHeld.2.1.imp (fun _ h => blk_below h hb), blk_below hHeld.2.2.1 hb, Kd.R_below hHeld.2.2.2 hb⟩ (fun hHeld => ?_)
              clear hK K
              refine norm_ (a' := ?_) ?_ ?_
              rotate_left
              · show Act.put _ (some 56) _ = _
                simp only [Act.put, List.setIfInBounds_toArray, List.set_cons_zero, List.set_cons_succ, i64_w, i32_w]
                rfl
              refine one_ (i := 4) (N := some 59) #[true, true, true, true, true, false, false] rfl rfl (by kernel_rfl) (by decide) (fun K hK => ?_)
              refine goes_ Try.func23 (by kernel_rfl) rfl #[.int .u64 (V : Int), .int .i64 (n : Int)] (by rfl) rfl rfl (by first | rfl | (simp; done) | (simp only [List.map_toArray, List.map_cons, List.map_nil]; rfl)) ?_
              with_reducible refine (Signed_in V n HV.out HN.out.1 HN.out.2 _).mono ?_
              rintro e w3 ⟨rfl, hb⟩
              refine ⟨_, rfl, ?_⟩
              have n0_ := Aside0.mk (below_step (by repeat (first | (with_reducible first | exact HB.out | apply below_alloc | apply pw_below_drewN | apply below_drew1) | exact HB.out)) hb)
              clear HB
              have HB := n0_
              clear n0_
              refine hK.out _ _ ⟨blk_below hHeld.1 hb, hHeld.2.1.imp (fun _ h => blk_below h hb), blk_below hHeld.2.2.1 hb, Kd.R_below hHeld.2.2.2 hb⟩ (fun hHeld => ?_)
              clear hK K
              refine norm_ (a' := ?_) ?_ ?_
              rotate_left
              · show Act.put _ (some 59) _ = _
                simp only [Act.put, List.setIfInBounds_toArray, List.set_cons_zero, List.set_cons_succ, i64_w, i32_w]
                rfl
              refine pure_ (i := 5) (N := some 60) (v := ?_) (a' := ?_) #[true, true, true, true, true, true, false] rfl rfl (by kernel_rfl) (fun _ _ _ h => h) (Or.inl ⟨by rfl, ?_⟩) ?_ ?_
              rotate_left
              · intro w'
                go_simp
                with_reducible rfl
              rotate_left
              · simp only [Act.put, List.setIfInBounds_toArray, List.set_cons_zero, List.set_cons_succ, i64_w, i32_w]
                rfl
              refine one_ (i := 6) (N := none) #[true, true, true, true, true, true, true] rfl rfl (by kernel_rfl) (by decide) (fun K hK => ?_)
              obtain ⟨hS0, ⟨u_, hS1⟩, hS2, hS3⟩ := hHeld
              have hcS := (blk_cell hS1 1).trans (show _ = some u_ from rfl)
              have hfS := blk_frozen hS1 1
              have n9_ := Aside0.mk (blk_put (cs' := #[.int .i64 (n : Int), .int .i64 (signedOf V n), .bool true]) hS1 1 (.int .i64 (signedOf V n)) rfl)
              have n8_ := Aside0.mk (HB.out.setCell (p := ⟨gb, 1, none⟩) GB.out.2 (.int .i64 (signedOf V n)))
              clear HB
              have HB := n8_
              refine skip_ (w1 := ?_) (by rfl) rfl ?_ ?_
              rotate_left
              · go_simp
                rfl
              refine hK.out _ _ ⟨blk_far hS0 (by have := GC.out; show gc ≠ gb; omega) _, ⟨_, n9_.out⟩, blk_far hS2 (by have := GB.out; show g6 ≠ gb; omega) _, Kd.R_far hS3 (fun k hk => hk.2) _⟩ (fun hHeld => ?_)
              clear hK K
              refine done_ (by kernel_rfl) ?_
              obtain ⟨BC, _, H0, HO⟩ := hHeld
              replace BC := Aside0.mk BC
              have BK := n9_
              replace H0 := Aside0.mk H0
              replace HO := Aside0.mk HO
              have hcn9 := (blk_cell BK.out 0).trans (show _ = some (Value.int .i64 (n : Int)) from rfl)
              have hcv9 := (blk_cell BK.out 1).trans (show _ = some (Value.int .i64 (signedOf V n)) from rfl)
              have hcs9 := (blk_cell BK.out 2).trans (show _ = some (Value.bool true) from rfl)
              go_wp2_with (first | ((with_reducible refine gate_builtin (b := .append) (xs := #[.tmp 69, .tmp 71]) rfl ?_); at_builtin; refine Kd.R_append k56 (w0 := w) w.heap.size rfl (.tmp 69) (.tmp 71) 53 56 (.agg #[(.int .i64 0), (.int .i64 0), (.bool false)]) 24 rfl Try.underlying53 info56 rfl (by decide) (by omega) u7 acc (⟨(n : Int), signedOf V n, true⟩ : S56) [.int .i64 (n : Int), .int .i64 (signedOf V n), .bool true] (fun k => k ≠ g6 ∧ k ≠ gb) (fun _ => False) rfl (by first | (go_simp; done) | (go_simp; rfl)) ?aP (fun _ hk => hk.elim) ?aF ?aO ?aB ?aS ?aL ?_; (case aP => exact k56_mkM _ _ _ (⟨(n : Int), signedOf V n, true⟩ : S56)); (case aB => exact HB.out); (case aF => exact (fun k hk => by have h1 := blk_lt H0.out; have h2 := blk_lt BK.out; omega)); (case aO => exact HO.out); (case aS => exact HB.out.size); (case aL => have := HLA'.out; omega); intro v1 wA ho hbA hgA hatA; have HA1 := Aside0.mk ho; have HA2 := Aside0.mk hbA; have HA3 := Aside0.mk (blk_grown H0.out hgA (Kd.R_away HO.out (fun _ hk => hk.1))); clear ho hbA hgA hatA))
              go_roundw
              case rel => exact ⟨j + 1, a + n, acc ++ [⟨(n : Int), signedOf V n, true⟩], by omega, by omega, by go_num, rfl, ⟨by have := HLA.out; simp; omega⟩, ⟨HE2.out.symm⟩, ⟨Kd.R_mono HA1.out (fun k hk => hk.1)⟩, HA3, HA2⟩
              case measure => simp [intOf]; omega
            | false =>
              have HVX := Aside0.mk (HVE.out.trans (if_neg (show ¬ (false = true) by decide)))
              rw [HVX.out] at HE
              clear HVE HVX
              by_cases c3 : wrap64 (V : Int) < 0
              · have HE2 := Aside0.mk (HE.out.trans (if_pos ⟨rfl, c3⟩))
                have d3 : decide (wrap64 (V : Int) < 0) = true := decide_eq_true c3
                clear HE c3
                go_wp2_with (fail)
                generalize w4.setCell ⟨gb, 1, none⟩ (.int .i64 (wrap64 (V : Int))) = w5 at *
                go_ret2
                exact ⟨_, by rw [HE2.out]; rfl, by rw [HE2.out]; exact Kd.R_nil _ _ _ _ _, HB.out⟩
              · have HE2 := Aside0.mk (HE.out.trans (if_neg (fun h => c3 h.2)))
                have d3 : decide (wrap64 (V : Int) < 0) = false := decide_eq_false c3
                clear HE c3
                go_wp2_with (first | ((with_reducible refine gate_builtin (b := .append) (xs := #[.tmp 69, .tmp 71]) rfl ?_); at_builtin; refine Kd.R_append k56 (w0 := w) w.heap.size rfl (.tmp 69) (.tmp 71) 53 56 (.agg #[(.int .i64 0), (.int .i64 0), (.bool false)]) 24 rfl Try.underlying53 info56 rfl (by decide) (by omega) u7 acc (⟨(n : Int), wrap64 (V : Int), false⟩ : S56) [.int .i64 (n : Int), .int .i64 (wrap64 (V : Int)), .bool false] (fun k => k ≠ g6 ∧ k ≠ gb) (fun _ => False) rfl (by first | (go_simp; done) | (go_simp; rfl)) ?aP (fun _ hk => hk.elim) ?aF ?aO ?aB ?aS ?aL ?_; (case aP => exact k56_mkM _ _ _ (⟨(n : Int), wrap64 (V : Int), false⟩ : S56)); (case aB => exact HB.out); (case aF => exact (fun k hk => by have h1 := blk_lt H0.out; have h2 := blk_lt BK.out; omega)); (case aO => exact HO.out); (case aS => exact HB.out.size); (case aL => have := HLA'.out; omega); intro v1 wA ho hbA hgA hatA; have HA1 := Aside0.mk ho; have HA2 := Aside0.mk hbA; have HA3 := Aside0.mk (blk_grown H0.out hgA (Kd.R_away HO.out (fun _ hk => hk.1))); clear ho hbA hgA hatA))
                go_roundw
                case rel => exact ⟨j + 1, a + n, acc ++ [⟨(n : Int), wrap64 (V : Int), false⟩], by omega, by omega, by go_num, rfl, ⟨by have := HLA.out; simp; omega⟩, ⟨HE2.out.symm⟩, ⟨Kd.R_mono HA1.out (fun k hk => hk.1)⟩, HA3, HA2⟩
                case measure => simp [intOf]; omega
      · have HE := Aside0.mk (HPK.out.trans (if_neg c1))
        have dd : (decide (b < 1) = true) ∨ (decide (b < 1) = false ∧ decide (64 - (a : Int) < b) = true) := by
          by_cases c2 : b < 1
          · exact .inl (decide_eq_true c2)
          · exact .inr ⟨decide_eq_false c2, decide_eq_true (by omega)⟩
        clear c1 HPK
        rcases dd with d1 | ⟨d1, d2⟩
        all_goals
          go_wp2_with (first | ((with_reducible refine gate_dst (N := 10) rfl ?_); refine box_event ?hg (N := 10) ?hd (cs := #[.int .i64 0, .int .i64 0, .bool false]) (t := 56) ?hr ?_; (case hd => rfl); (case hg => rfl); (case hr => first | (go_simp; done) | (go_simp; rfl) | (rw [bl_zero]; go_simp; done) | (rw [bl_zero]; go_simp; rfl)); intro gb hgb w8 hbox hb; have n0_ := Aside0.mk (below_step HB.out hb); have n1_ := Aside0.mk hbox; have n2_ := Aside0.mk (show w.heap.size ≤ gb by rw [hgb]; exact HB.out.size); clear HB; have HB := n0_; have BK := n1_; have GB := n2_; clear n0_ n1_ n2_ hb hbox hgb; have hcz0 : w8.cell? ⟨gb, 0, none⟩ = some (.int .i64 0) := (blk_cell BK.out 0).trans rfl; have hcz1 : w8.cell? ⟨gb, 1, none⟩ = some (.int .i64 0) := (blk_cell BK.out 1).trans rfl; have hcz2 : w8.cell? ⟨gb, 2, none⟩ = some (.bool false) := (blk_cell BK.out 2).trans rfl; have hfz0 := blk_frozen BK.out 0; have hfz1 := blk_frozen BK.out 1; have hfz2 := blk_frozen BK.out 2))
          go_ret2
          exact ⟨_, by rw [HE.out]; rfl, by rw [HE.out]; exact Kd.R_nil _ _ _ _ _, ((HB.out.setCell GB.out _).setCell GB.out _).setCell GB.out _⟩
    · obtain rfl : j = l.length := by omega
      have HE : Aside0 ((if z / 2 ^ a = 0 then some acc else none) = r) := ⟨by have := HP.out; rw [List.drop_length] at this; exact this⟩
      go_wp2_with (fail)
      go_loopw [74] (fun v74 wr => ∃ i : Nat, i ≤ 64 ∧ v74 = .int .i64 (i : Int) ∧ Aside0 (∀ m, a ≤ m → m < i → z.testBit m = false) ∧ Aside0 (Kd.R k56 56 wr w.heap.size (fun k => k ≠ g6) u7 acc) ∧ Aside0 (wr.heap[g6]? = some (.cells (bl z) 25 (0, 0))) ∧ Aside0 (Below w.heap.size w wr)) (fun v74 _ => (64 - intOf v74).toNat)
      case atStart => exact ⟨0, by omega, rfl, ⟨fun m _ h => absurd h (by omega)⟩, HO, H0, HB⟩
      case round =>
        clear HO H0 HB
        obtain ⟨i, hi, rfl, HNO, HO, H0, HB⟩ := hrel
        by_cases hlt2 : i < 64
        · by_cases hai : a ≤ i
          · have d1 : decide (a ≤ i) = true := decide_eq_true hai
            have d2 : decide ((a : Int) ≤ (i : Int)) = true := decide_eq_true (by omega)
            have hci := (blk_cell H0.out i).trans (bl_get _ i hlt2)
            obtain ⟨bb, hbb⟩ : ∃ bb, z.testBit i = bb := ⟨_, rfl⟩
            rw [hbb] at hci
            have HBB := Aside0.mk hbb
            have HAI := Aside0.mk hai
            clear hbb
            cases bb with
            | true =>
              have HE2 := Aside0.mk ((if_neg (high_some HAI.out HBB.out)).symm.trans HE.out)
              go_wp2_with (fail)
              go_ret2
              exact ⟨_, by rw [← HE2.out]; rfl, by rw [← HE2.out]; exact Kd.R_nil _ _ _ _ _, HB.out⟩
            | false =>
              go_wp2_with (fail)
              go_roundw
              case rel => exact ⟨i + 1, by omega, rfl, ⟨fun m h1 h2 => by
                by_cases e : m = i
                · rw [e]; exact HBB.out
                · exact HNO.out m h1 (by omega)⟩, HO, H0, HB⟩
              case measure => simp [intOf]; omega
          · have d1 : decide (a ≤ i) = false := decide_eq_false hai
            have d2 : decide ((a : Int) ≤ (i : Int)) = false := decide_eq_false (by omega)
            go_wp2_with (fail)
            go_roundw
            case rel => exact ⟨i + 1, by omega, rfl, ⟨fun m h1 h2 => HNO.out m h1 (by omega)⟩, HO, H0, HB⟩
            case measure => simp [intOf]; omega
        · obtain rfl : i = 64 := by omega
          have HE2 := Aside0.mk ((if_pos (high_zero (fun m h1 h2 => HNO.out m h1 h2) HZ.out)).symm.trans HE.out)
          go_wp2_with (fail)
          go_ret2
          exact ⟨_, by rw [← HE2.out]; rfl, by rw [← HE2.out]; exact Kd.R_mono HO.out (fun _ _ => trivial), HB.out⟩
end Go.Proofs.Ytjkllkbdmkkndaa.Pk
