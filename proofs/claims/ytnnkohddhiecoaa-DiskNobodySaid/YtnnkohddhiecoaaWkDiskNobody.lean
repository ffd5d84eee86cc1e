/- A disk that no call made. -/
import Derived.Test.YtnnkohddhiecoaaDkNil
namespace Go.Proofs.Ytnnkohddhiecoaa.Wk
open Go Go.RowKit Go.Proofs.YtnnkohddhiecoaaW.PrintWords Go.Proofs.YtnnkohddhiecoaaW.PrintLast Go.Proofs.YtnnkohddhiecoaaW.PrintMore Go.Proofs.Ytnnkohddhiecoaa.Dk
open Go.Proofs.Ytnnkohddhiecoaa.PDiskBegins
attribute [local go_sem] max2_int min2_int max_two min_two
set_option linter.unusedVariables false
set_option linter.unusedSimpArgs false
set_option maxHeartbeats 16000000 in
set_option maxRecDepth 100000 in
theorem DiskNobody {W : World} (a1 : Array Value) (y : S35) (hK1 : k35.K W y a1.toList) (hG1 : GDo y) :
    Calls Try.prog 6 #[.agg a1] W fun e w' => e = .returned (.bool true) ∧ Below W.heap.size W w' := by
  obtain ⟨A3, c3, A4, c4, e1, l3, g3, l4, g4⟩ := k35_open hK1
  have ea := congrArg List.toArray e1
  rw [Array.toArray_toList] at ea
  subst ea
  have HG3 := Aside0.mk (And.intro l3 g3)
  have HG4 := Aside0.mk (And.intro l4 g4)
  have HGY := Aside0.mk hG1
  have hsz : (W.alloc (.cells #[.int .i64 y.f0, .int .i64 y.f1, .int .i64 y.f2, .slice A3 y.f3.length c3, .slice A4 y.f4.length c4] 35)).heap.size = W.heap.size + 1 := by simp
  have hn := blk_new (W.alloc (.cells #[.int .i64 y.f0, .int .i64 y.f1, .int .i64 y.f2, .slice A3 y.f3.length c3, .slice A4 y.f4.length c4] 35)) (.cells #[.int .i64 y.f0, .int .i64 y.f1, .int .i64 y.f2, .slice A3 y.f3.length c3, .slice A4 y.f4.length c4] 35)
  have hK3 := one_K (fr := (0, 0)) (cs := [.int .i64 y.f0, .int .i64 y.f1, .int .i64 y.f2, .slice A3 y.f3.length c3, .slice A4 y.f4.length c4]) hn (k35.K_below (below_alloc (Below.refl _ _) _) (k35.K_below (below_alloc (Below.refl _ _) (.cells #[.int .i64 y.f0, .int .i64 y.f1, .int .i64 y.f2, .slice A3 y.f3.length c3, .slice A4 y.f4.length c4] 35)) hK1))
  rw [hsz] at hK3
  obtain ⟨r, hr, hsh⟩ := short1 [y] (some ⟨W.heap.size + 1, 0, none⟩) 1 ((W.alloc (.cells #[.int .i64 y.f0, .int .i64 y.f1, .int .i64 y.f2, .slice A3 y.f3.length c3, .slice A4 y.f4.length c4] 35)).alloc (.cells #[.int .i64 y.f0, .int .i64 y.f1, .int .i64 y.f2, .slice A3 y.f3.length c3, .slice A4 y.f4.length c4] 35)) hK3 (Nat.le_refl _)
  replace hsh := hsh.mono (R' := fun e w' => e = .returned (.bool r) ∧ Below W.heap.size W w' ∧ w'.heap[W.heap.size]? = some (.cells #[.int .i64 y.f0, .int .i64 y.f1, .int .i64 y.f2, .slice A3 y.f3.length c3, .slice A4 y.f4.length c4] 35 (0, 0))) (fun e w' h => ⟨h.1, below_step (below_alloc (below_alloc (Below.refl _ _) _) _) h.2, blk_below (blk_alloc (blk_new W (.cells #[.int .i64 y.f0, .int .i64 y.f1, .int .i64 y.f2, .slice A3 y.f3.length c3, .slice A4 y.f4.length c4] 35)) _) h.2⟩)
  rw [show ((W.alloc (.cells #[.int .i64 y.f0, .int .i64 y.f1, .int .i64 y.f2, .slice A3 y.f3.length c3, .slice A4 y.f4.length c4] 35)).alloc (.cells #[.int .i64 y.f0, .int .i64 y.f1, .int .i64 y.f2, .slice A3 y.f3.length c3, .slice A4 y.f4.length c4] 35)).heap.size = W.heap.size + 2 by simp] at hsh
  have HSH := Aside0.mk hsh
  have HR := Aside0.mk hr
  clear hsh hr hK1 hK3 hn hsz e1 l3 g3 l4 g4 hG1
  cases r with
  | false =>
    clear HR
    go_enter Try.func6, Try.ntmps6
    go_wp2_with (fail)
    refine (HSH.out).mono ?_
    rintro e x2 ⟨rfl, hb1, hbx⟩
    have HY := Aside0.mk hb1
    have HBX := Aside0.mk hbx
    clear hb1 hbx HSH
    go_wp2_with (fail)
    refine (awake_calls _).mono ?_
    rintro e z1 ⟨rfl, hb7⟩
    have HZ := Aside0.mk (below_step HY.out hb7)
    clear hb7
    go_wp2_with (fail)
    go_ret
    exact ⟨rfl, HZ.out⟩
  | true =>
    have HSM := Aside0.mk (HR.out rfl)
    clear HR
    go_enter Try.func6, Try.ntmps6
    go_wp2_with (fail)
    refine (HSH.out).mono ?_
    rintro e x2 ⟨rfl, hb1, hbx⟩
    have HY := Aside0.mk hb1
    have HBX := Aside0.mk hbx
    clear hb1 hbx HSH
    go_wp2_with (fail)
    obtain ⟨y2, hy2⟩ : ∃ y2, ((x2.alloc (.cells #[.bool false, .int .i64 0, .slice none 0 0, .slice none 0 0, .slice none 0 0, .bool false, .slice none 0 0, .slice none 0 0, .bool false, .slice none 0 0, .slice none 0 0, .bool false, .slice none 0 0, .slice none 0 0, .bool false, .slice none 0 0, .slice none 0 0, .bool false, .slice none 0 0, .slice none 0 0, .bool false, .slice none 0 0, .slice none 0 0, .bool false, .slice none 0 0, .slice none 0 0, .bool false, .int .i64 0, .bool false] 60)).alloc (.cells #[.pointer none, .pointer (some ⟨x2.heap.size, 0, none⟩)] 23)) = y2 := ⟨_, rfl⟩
    rw [hy2]
    have hB2 : Below x2.heap.size x2 y2 := by rw [← hy2]; exact below_alloc (below_alloc (Below.refl _ _) _) _
    have hD2 : IsD (fun k => k = x2.heap.size) y2 x2.heap.size (newP 0) := by
      rw [← hy2]
      refine ⟨fun k hk => by subst hk; simp; omega, rfl, zDV 0, ⟨rfl, ?_⟩, zRows _ _ _⟩
      exact blk_alloc (blk_new x2 (.cells (zDV 0).cells.toArray 60)) _
    have hR2 : y2.heap[x2.heap.size + 1]? = some (.cells #[.pointer none, .pointer (some ⟨x2.heap.size, 0, none⟩)] 23 (0, 0)) := by
      rw [← hy2]
      have h := blk_new (x2.alloc (.cells #[.bool false, .int .i64 0, .slice none 0 0, .slice none 0 0, .slice none 0 0, .bool false, .slice none 0 0, .slice none 0 0, .bool false, .slice none 0 0, .slice none 0 0, .bool false, .slice none 0 0, .slice none 0 0, .bool false, .slice none 0 0, .slice none 0 0, .bool false, .slice none 0 0, .slice none 0 0, .bool false, .slice none 0 0, .slice none 0 0, .bool false, .slice none 0 0, .slice none 0 0, .bool false, .int .i64 0, .bool false] 60)) (.cells #[.pointer none, .pointer (some ⟨x2.heap.size, 0, none⟩)] 23)
      rwa [show (x2.alloc (.cells #[.bool false, .int .i64 0, .slice none 0 0, .slice none 0 0, .slice none 0 0, .bool false, .slice none 0 0, .slice none 0 0, .bool false, .slice none 0 0, .slice none 0 0, .bool false, .slice none 0 0, .slice none 0 0, .bool false, .slice none 0 0, .slice none 0 0, .bool false, .slice none 0 0, .slice none 0 0, .bool false, .slice none 0 0, .slice none 0 0, .bool false, .slice none 0 0, .slice none 0 0, .bool false, .int .i64 0, .bool false] 60)).heap.size = x2.heap.size + 1 by simp] at h
    have HB2 := Aside0.mk (below_step HY.out hB2)
    have HX2 := Aside0.mk (blk_below HBX.out hB2)
    have HD2 := Aside0.mk hD2
    have HR2 := Aside0.mk hR2
    have HLW := Aside0.mk (show W.heap.size < x2.heap.size from blk_lt HBX.out)
    have HOKD := Aside0.mk (HGY.out.ok (HSM.out.2 y (List.mem_singleton.2 rfl)))
    clear hy2 hB2 hD2 hR2
    go_loopw [18] (fun v18 wr => ∃ i : Nat, i ≤ 2 ∧ v18 = .int .i64 (i : Int) ∧ Aside0 (Below W.heap.size W wr) ∧ Aside0 (IsD (fun k => k = x2.heap.size) wr x2.heap.size (newP 0)) ∧ Aside0 (wr.heap[x2.heap.size + 1]? = some (.cells #[.pointer none, .pointer (some ⟨x2.heap.size, 0, none⟩)] 23 (0, 0))) ∧ Aside0 (wr.heap[W.heap.size]? = some (.cells #[.int .i64 y.f0, .int .i64 y.f1, .int .i64 y.f2, .slice A3 y.f3.length c3, .slice A4 y.f4.length c4] 35 (0, 0)))) (fun v18 _ => (2 - intOf v18).toNat)
    case atStart => exact ⟨0, by omega, rfl, HB2, HD2, HR2, HX2⟩
    case round =>
      obtain ⟨i, hi, rfl, HB, HD, HR, HX⟩ := hrel
      clear HB2 HD2 HR2 HX2
      have r0 := blk_cell HR.out 0
      have r1 := blk_cell HR.out 1
      rw [show (#[.pointer none, .pointer (some ⟨x2.heap.size, 0, none⟩)] : Array Value)[0]? = some (.pointer none) from rfl] at r0
      rw [show (#[.pointer none, .pointer (some ⟨x2.heap.size, 0, none⟩)] : Array Value)[1]? = some (.pointer (some ⟨x2.heap.size, 0, none⟩)) from rfl] at r1
      have b0 := blk_cell HX.out 0
      rw [show (#[.int .i64 y.f0, .int .i64 y.f1, .int .i64 y.f2, .slice A3 y.f3.length c3, .slice A4 y.f4.length c4] : Array Value)[0]? = some (.int .i64 y.f0) from rfl] at b0
      have b1 := blk_cell HX.out 1
      rw [show (#[.int .i64 y.f0, .int .i64 y.f1, .int .i64 y.f2, .slice A3 y.f3.length c3, .slice A4 y.f4.length c4] : Array Value)[1]? = some (.int .i64 y.f1) from rfl] at b1
      have b2 := blk_cell HX.out 2
      rw [show (#[.int .i64 y.f0, .int .i64 y.f1, .int .i64 y.f2, .slice A3 y.f3.length c3, .slice A4 y.f4.length c4] : Array Value)[2]? = some (.int .i64 y.f2) from rfl] at b2
      have b3 := blk_cell HX.out 3
      rw [show (#[.int .i64 y.f0, .int .i64 y.f1, .int .i64 y.f2, .slice A3 y.f3.length c3, .slice A4 y.f4.length c4] : Array Value)[3]? = some (.slice A3 y.f3.length c3) from rfl] at b3
      have b4 := blk_cell HX.out 4
      rw [show (#[.int .i64 y.f0, .int .i64 y.f1, .int .i64 y.f2, .slice A3 y.f3.length c3, .slice A4 y.f4.length c4] : Array Value)[4]? = some (.slice A4 y.f4.length c4) from rfl] at b4
      rcases (show i = 0 ∨ i = 1 ∨ i = 2 by omega) with rfl | rfl | rfl
      · rw [show ((0 : Nat) : Int) = 0 from rfl]
        go_wp2_with (fail)
        refine (Read_nil y.f1 wr).mono ?_
        rintro e z1 ⟨rfl, hb⟩
        have HB1 := Aside0.mk (below_step HB.out hb)
        have HD1 := Aside0.mk (HD.out.below hb)
        have HR1 := Aside0.mk (blk_below HR.out hb)
        have HX1 := Aside0.mk (blk_below HX.out hb)
        clear hb HB HD HR HX r0 r1 b0 b1 b2 b3 b4
        have b0 := blk_cell HX1.out 0
        rw [show (#[.int .i64 y.f0, .int .i64 y.f1, .int .i64 y.f2, .slice A3 y.f3.length c3, .slice A4 y.f4.length c4] : Array Value)[0]? = some (.int .i64 y.f0) from rfl] at b0
        have b1 := blk_cell HX1.out 1
        rw [show (#[.int .i64 y.f0, .int .i64 y.f1, .int .i64 y.f2, .slice A3 y.f3.length c3, .slice A4 y.f4.length c4] : Array Value)[1]? = some (.int .i64 y.f1) from rfl] at b1
        have b2 := blk_cell HX1.out 2
        rw [show (#[.int .i64 y.f0, .int .i64 y.f1, .int .i64 y.f2, .slice A3 y.f3.length c3, .slice A4 y.f4.length c4] : Array Value)[2]? = some (.int .i64 y.f2) from rfl] at b2
        have b3 := blk_cell HX1.out 3
        rw [show (#[.int .i64 y.f0, .int .i64 y.f1, .int .i64 y.f2, .slice A3 y.f3.length c3, .slice A4 y.f4.length c4] : Array Value)[3]? = some (.slice A3 y.f3.length c3) from rfl] at b3
        have b4 := blk_cell HX1.out 4
        rw [show (#[.int .i64 y.f0, .int .i64 y.f1, .int .i64 y.f2, .slice A3 y.f3.length c3, .slice A4 y.f4.length c4] : Array Value)[4]? = some (.slice A4 y.f4.length c4) from rfl] at b4
        go_wp2_with (fail)
        refine (does_nil y.f0 y.f1 y.f2 A3 y.f3.length c3 A4 y.f4.length c4 z1).mono ?_
        rintro e z2 ⟨rfl, hb⟩
        have HB3 := Aside0.mk (below_step HB1.out hb)
        have HD3 := Aside0.mk (HD1.out.below hb)
        have HR3 := Aside0.mk (blk_below HR1.out hb)
        have HX3 := Aside0.mk (blk_below HX1.out hb)
        clear hb HB1 HD1 HR1 HX1 b0 b1 b2 b3 b4
        go_wp2_with (fail)
        refine (Used_nil z2).mono ?_
        rintro e z3 ⟨rfl, hb⟩
        have HB4 := Aside0.mk (below_step HB3.out hb)
        have HD4 := Aside0.mk (HD3.out.below hb)
        have HR4 := Aside0.mk (blk_below HR3.out hb)
        have HX4 := Aside0.mk (blk_below HX3.out hb)
        clear hb HB3 HD3 HR3 HX3
        go_wp2_with (fail)
        go_roundw
        case rel => exact ⟨1, by omega, rfl, HB4, HD4, HR4, HX4⟩
        case measure => simp [intOf]
      · rw [show ((1 : Nat) : Int) = 1 from rfl]
        go_wp2_with (fail)
        refine (Read_calls _ _ (newP 0) y.f1 wr HD.out zero_okk.1).mono ?_
        rintro e z1 ⟨v, rfl, hR, hb⟩
        rw [read_none (show (newP 0).room = 0 from rfl)] at hR
        rw [read_none (show (newP 0).room = 0 from rfl)]
        obtain ⟨A, c, e3⟩ := Kd.R_slice hR
        subst e3
        have HB1 := Aside0.mk (below_step HB.out hb)
        have HD1 := Aside0.mk (HD.out.below hb)
        have HR1 := Aside0.mk (blk_below HR.out hb)
        have HX1 := Aside0.mk (blk_below HX.out hb)
        clear hb hR HB HD HR HX r0 r1 b0 b1 b2 b3 b4
        have b0 := blk_cell HX1.out 0
        rw [show (#[.int .i64 y.f0, .int .i64 y.f1, .int .i64 y.f2, .slice A3 y.f3.length c3, .slice A4 y.f4.length c4] : Array Value)[0]? = some (.int .i64 y.f0) from rfl] at b0
        have b1 := blk_cell HX1.out 1
        rw [show (#[.int .i64 y.f0, .int .i64 y.f1, .int .i64 y.f2, .slice A3 y.f3.length c3, .slice A4 y.f4.length c4] : Array Value)[1]? = some (.int .i64 y.f1) from rfl] at b1
        have b2 := blk_cell HX1.out 2
        rw [show (#[.int .i64 y.f0, .int .i64 y.f1, .int .i64 y.f2, .slice A3 y.f3.length c3, .slice A4 y.f4.length c4] : Array Value)[2]? = some (.int .i64 y.f2) from rfl] at b2
        have b3 := blk_cell HX1.out 3
        rw [show (#[.int .i64 y.f0, .int .i64 y.f1, .int .i64 y.f2, .slice A3 y.f3.length c3, .slice A4 y.f4.length c4] : Array Value)[3]? = some (.slice A3 y.f3.length c3) from rfl] at b3
        have b4 := blk_cell HX1.out 4
        rw [show (#[.int .i64 y.f0, .int .i64 y.f1, .int .i64 y.f2, .slice A3 y.f3.length c3, .slice A4 y.f4.length c4] : Array Value)[4]? = some (.slice A4 y.f4.length c4) from rfl] at b4
        go_wp2_with (fail)
        have HR3 := Aside0.mk ((Rw.came (G := fun k => k = x2.heap.size) HG3.out.2 HG3.out.1 (fun k hk => by have := HLW.out; omega)).below HB1.out)
        have HR4 := Aside0.mk ((Rw.came (G := fun k => k = x2.heap.size) HG4.out.2 HG4.out.1 (fun k hk => by have := HLW.out; omega)).below HB1.out)
        refine (does_calls _ _ (newP 0) (toDd y) _ _ z1 HD1.out zero_okk HOKD.out HR3.out HR4.out).mono ?_
        rintro e z2 ⟨rfl, hI, hW⟩
        rw [does_none (show (newP 0).room = 0 from rfl)] at hI
        rw [does_none (show (newP 0).room = 0 from rfl)]
        have HB5 := Aside0.mk (hW.below HB1.out (Nat.le_of_lt HLW.out))
        have HD5 := Aside0.mk hI
        have HR5 := Aside0.mk ((hW.block _ (blk_lt HR1.out) (by omega)).trans HR1.out)
        have HX5 := Aside0.mk ((hW.block _ (blk_lt HX1.out) (by have := HLW.out; omega)).trans HX1.out)
        clear hI hW HB1 HD1 HR1 HX1 b0 b1 b2 b3 b4
        go_wp2_with (fail)
        refine (Used_calls _ _ (newP 0) z2 HD5.out zero_okk.1).mono ?_
        rintro e z3 ⟨rfl, hb⟩
        rw [show ((usedP (newP 0) : Nat) : Int) = 0 from rfl]
        have HB6 := Aside0.mk (below_step HB5.out hb)
        have HD6 := Aside0.mk (HD5.out.below hb)
        have HR6 := Aside0.mk (blk_below HR5.out hb)
        have HX6 := Aside0.mk (blk_below HX5.out hb)
        clear hb HB5 HD5 HR5 HX5
        go_wp2_with (fail)
        go_roundw
        case rel => exact ⟨2, by omega, rfl, HB6, HD6, HR6, HX6⟩
        case measure => simp [intOf]
      · rw [show ((2 : Nat) : Int) = 2 from rfl]
        clear r0 r1 b0 b1 b2 b3 b4
        go_wp2_with (fail)
        refine (Clone_nil wr).mono ?_
        rintro e z1 ⟨rfl, hb⟩
        have HB1 := Aside0.mk (below_step HB.out hb)
        clear hb
        go_wp2_with (fail)
        refine (awake_calls _).mono ?_
        rintro e z1 ⟨rfl, hb7⟩
        have HZ := Aside0.mk (below_step HB1.out hb7)
        clear hb7
        go_wp2_with (fail)
        go_ret
        exact ⟨rfl, HZ.out⟩
end Go.Proofs.Ytnnkohddhiecoaa.Wk
