/- The reference's fits: the print's function and walk, under the names of the other law. -/
import Derived.Test.YtjkllkbdmkkndaaPkA
namespace Go.Proofs.Ytjkllkbdmkkndaa.PMaskUnpacks
open Go.RowKit Go.Proofs.YtjkllkbdmkkndaaW.PrintWords Go.Proofs.YtjkllkbdmkkndaaW.PrintLast Go.Proofs.YtjkllkbdmkkndaaW.PrintMore
attribute [local go_sem] max2_int min2_int max_two min_two max_three min_three max_four min_four   -- for this text's walks alone
set_option linter.unusedVariables false
set_option linter.unusedSimpArgs false

/-! ### towlineref02_fits: function 57 -/
mutual
def towlineref02_fits.j0 : Nat → Bool → Int → Int → Bool → Option (Bool)
  | 0, _, _, _, _ => none
  | k + 1, x11, x133000, x133001, x133002 => if x11 = true then (some false) else (if x133000 = 64 then (if x133002 = true then (some true) else (some (decide (x133001 ≥ 0)))) else (towlineref02_fits.l0 k 1 (wrap64 (x133000 - 1)) 0 x133000 x133001 x133002))
def towlineref02_fits.l0 : Nat → Int → Int → Int → Int → Int → Bool → Option (Bool)
  | 0, _, _, _, _, _, _ => none
  | k + 1, x3, x24, x25, x133000, x133001, x133002 => if x25 < x24 then (towlineref02_fits.l0 k (wrap64 (2 * x3)) x24 (wrap64 (x25 + 1)) x133000 x133001 x133002) else (if x133002 = true then (if x133001 ≥ (wrap64 (-x3)) then (some (decide (x133001 ≤ (wrap64 (x3 - 1))))) else (some false)) else (if x133001 ≥ 0 then (some (decide ((wrap64 (Int.tdiv x133001 2)) ≤ (wrap64 (x3 - 1))))) else (some false)))
end
def towlineref02_fits.f (k : Nat) (a0_0 : Int) (a0_1 : Int) (a0_2 : Bool) : Option (Bool) := if a0_0 < 1 then (towlineref02_fits.j0 k true a0_0 a0_1 a0_2) else (towlineref02_fits.j0 k (decide (a0_0 > 64)) a0_0 a0_1 a0_2)
theorem towlineref02_fits.mono_l : ∀ k, (∀ y0 y1 y2 y3, LeO (towlineref02_fits.j0 k y0 y1 y2 y3) (towlineref02_fits.j0 (k + 1) y0 y1 y2 y3)) ∧ (∀ y0 y1 y2 y3 y4 y5, LeO (towlineref02_fits.l0 k y0 y1 y2 y3 y4 y5) (towlineref02_fits.l0 (k + 1) y0 y1 y2 y3 y4 y5))
  | 0 => ⟨fun _ _ _ _ r h => by simp [towlineref02_fits.j0] at h, fun _ _ _ _ _ _ r h => by simp [towlineref02_fits.l0] at h⟩
  | k + 1 => by
    obtain ⟨ih0, ih1⟩ := towlineref02_fits.mono_l k
    refine ⟨?_, ?_⟩
    · intro y0 y1 y2 y3
      unfold towlineref02_fits.j0
      repeat' first
      | (with_reducible exact ih0 _ _ _ _)
      | (with_reducible exact ih1 _ _ _ _ _ _)
      | (with_reducible exact LeO.refl _)
      | (with_reducible exact LeO.none _)
      | (with_reducible refine LeO.ite ?_ ?_)
      | (with_reducible refine LeO.bind ?_ (fun _ => ?_))
      | exact ih0 _ _ _ _
      | exact ih1 _ _ _ _ _ _
      | exact LeO.none _
      | refine LeO.ite ?_ ?_
      | refine LeO.bind ?_ (fun _ => ?_)
    · intro y0 y1 y2 y3 y4 y5
      unfold towlineref02_fits.l0
      repeat' first
      | (with_reducible exact ih0 _ _ _ _)
      | (with_reducible exact ih1 _ _ _ _ _ _)
      | (with_reducible exact LeO.refl _)
      | (with_reducible exact LeO.none _)
      | (with_reducible refine LeO.ite ?_ ?_)
      | (with_reducible refine LeO.bind ?_ (fun _ => ?_))
      | exact ih0 _ _ _ _
      | exact ih1 _ _ _ _ _ _
      | exact LeO.none _
      | refine LeO.ite ?_ ?_
      | refine LeO.bind ?_ (fun _ => ?_)
theorem towlineref02_fits.mono : ∀ a0 a1 a2 k, LeO (towlineref02_fits.f k a0 a1 a2) (towlineref02_fits.f (k + 1) a0 a1 a2) := by
  intro a0 a1 a2 k
  obtain ⟨ih0, ih1⟩ := towlineref02_fits.mono_l k
  unfold towlineref02_fits.f
  repeat' first
      | (with_reducible exact ih0 _ _ _ _)
      | (with_reducible exact ih1 _ _ _ _ _ _)
      | (with_reducible exact LeO.refl _)
      | (with_reducible exact LeO.none _)
      | (with_reducible refine LeO.ite ?_ ?_)
      | (with_reducible refine LeO.bind ?_ (fun _ => ?_))
      | exact ih0 _ _ _ _
      | exact ih1 _ _ _ _ _ _
      | exact LeO.none _
      | refine LeO.ite ?_ ?_
      | refine LeO.bind ?_ (fun _ => ?_)
set_option maxHeartbeats 8000000 in
set_option maxRecDepth 100000 in
theorem towlineref02_fits.calls (k : Nat) (a0_0 : Int) (a0_1 : Int) (a0_2 : Bool) (r : Bool) (w : World) (h : towlineref02_fits.f k a0_0 a0_1 a0_2 = some r) :
    Calls Try.prog 57 #[.agg #[.int .i64 a0_0, .int .i64 a0_1, .bool a0_2]] w fun e w' => e = .returned (.bool r) ∧ Below w.heap.size w w' := by
  have hu56 := Try.underlying56
  have HB := Aside0.mk (Below.refl w.heap.size w)
  have H : (if a0_0 < 1 then (towlineref02_fits.j0 k true a0_0 a0_1 a0_2) else (towlineref02_fits.j0 k (decide (a0_0 > 64)) a0_0 a0_1 a0_2)) = some r := h
  clear h
  have HC2 := Aside0.mk H
  clear H
  go_enter Try.func57, Try.ntmps57
  go_upto_region 1 with (first | ((with_reducible refine gate_dst (N := 1) rfl ?_); refine box_event ?hg (N := 1) ?hd (cs := #[.int .i64 a0_0, .int .i64 a0_1, .bool a0_2]) (t := 56) ?hr ?_; (case hd => rfl); (case hg => rfl); (case hr => first | (go_simp; done) | (go_simp; rfl)); intro gb132 hg w3 hbox hb; have n0_ := Aside0.mk (below_step (by repeat (first | (with_reducible first | exact HB.out | apply below_alloc | apply pw_below_drewN | apply below_drew1) | exact HB.out)) hb); have n1_ := Aside0.mk (hbox); have n2_ := Aside0.mk ((by rw [hg]; exact (below_size (by repeat (first | (with_reducible first | exact HB.out | apply below_alloc | apply pw_below_drewN | apply below_drew1) | exact HB.out))) : w.heap.size ≤ gb132)); have n3_ := Aside0.mk ((by rw [hg]; exact (below_size (by repeat (first | (with_reducible first | exact HB.out | apply below_alloc | apply pw_below_drewN | apply below_drew1) | exact HB.out))) : w.heap.size ≤ gb132)); clear HB; have HB := n0_; have BK132 := n1_; have GW132 := n2_; have GE132 := n3_; clear n0_ n1_ n2_ n3_; clear hb hbox hg))
  (try simp only [Act.put, List.setIfInBounds_toArray, List.set_cons_zero, List.set_cons_succ])
  go_cut [11] (fun v11 wc => ∃ (kq : Nat) (x11_1 : Bool), v11 = .bool x11_1 ∧ Aside0 (towlineref02_fits.j0 kq x11_1 a0_0 a0_1 a0_2 = some r) ∧ Aside0 (kq ≤ k) ∧ Aside0 (wc.heap[gb132]? = some (.cells #[.int .i64 a0_0, .int .i64 a0_1, .bool a0_2] 56 (0, 0))) ∧ Aside0 (Below w.heap.size w wc))
  case first =>
    have H := HC2.out
    clear HC2
    by_cases c4 : a0_0 < 1
    · rw [if_pos c4] at H
      have c4b0 : decide (a0_0 < 1) = true := decide_eq_true c4
      clear c4
      (first | rw [c4b0] | (simp only [i64_w, i32_w]; rw [c4b0]) | skip)
      have H' := Aside0.mk H
      clear H
      have hcz5_0 : w3.cell? ⟨gb132, 0, none⟩ = some (.int .i64 a0_0) := (blk_cell BK132.out 0).trans rfl
      have hcz5_1 : w3.cell? ⟨gb132, 1, none⟩ = some (.int .i64 a0_1) := (blk_cell BK132.out 1).trans rfl
      have hcz5_2 : w3.cell? ⟨gb132, 2, none⟩ = some (.bool a0_2) := (blk_cell BK132.out 2).trans rfl
      have hfz5_0 := blk_frozen BK132.out 0
      have hfz5_1 := blk_frozen BK132.out 1
      have hfz5_2 := blk_frozen BK132.out 2
      go_wp2
      go_meet
      case rel => exact ⟨_, (true), (by first | rfl | (simp; done) | (simp [*]; done)), H', ⟨by first | omega | exact Nat.le_refl _⟩, ⟨by (with_reducible repeat (first | refine blk_drewN ?_ _ | refine blk_drew ?_ | refine blk_alloc ?_ _)); exact BK132.out⟩, ⟨by repeat (first | (with_reducible first | exact HB.out | apply below_alloc | apply pw_below_drewN | apply below_drew1 | refine below_set ?_ GE132.out) | exact HB.out)⟩⟩
    · rw [if_neg c4] at H
      have c4b0 : decide (a0_0 < 1) = false := decide_eq_false c4
      clear c4
      (first | rw [c4b0] | (simp only [i64_w, i32_w]; rw [c4b0]) | skip)
      have H' := Aside0.mk H
      clear H
      have hcz6_0 : w3.cell? ⟨gb132, 0, none⟩ = some (.int .i64 a0_0) := (blk_cell BK132.out 0).trans rfl
      have hcz6_1 : w3.cell? ⟨gb132, 1, none⟩ = some (.int .i64 a0_1) := (blk_cell BK132.out 1).trans rfl
      have hcz6_2 : w3.cell? ⟨gb132, 2, none⟩ = some (.bool a0_2) := (blk_cell BK132.out 2).trans rfl
      have hfz6_0 := blk_frozen BK132.out 0
      have hfz6_1 := blk_frozen BK132.out 1
      have hfz6_2 := blk_frozen BK132.out 2
      go_wp2
      go_meet
      case rel => exact ⟨_, (decide (a0_0 > 64)), (by first | rfl | (simp; done) | (simp [*]; done)), H', ⟨by first | omega | exact Nat.le_refl _⟩, ⟨by (with_reducible repeat (first | refine blk_drewN ?_ _ | refine blk_drew ?_ | refine blk_alloc ?_ _)); exact BK132.out⟩, ⟨by repeat (first | (with_reducible first | exact HB.out | apply below_alloc | apply pw_below_drewN | apply below_drew1 | refine below_set ?_ GE132.out) | exact HB.out)⟩⟩
  case rest =>
    clear HC2
    try clear p2
    try clear c4
    try clear c4b0
    try clear c5
    try clear hcz5_0
    try clear hcz5_1
    try clear hcz5_2
    try clear hcz6_0
    try clear hcz6_1
    try clear hcz6_2
    try clear hfz5_0
    try clear hfz5_1
    try clear hfz5_2
    try clear hfz6_0
    try clear hfz6_1
    try clear hfz6_2
    obtain ⟨kq, x11_1, rfl, HA, HJ1, BK132, HB⟩ := hcut
    cases kq with
    | zero => exact absurd HA.out (by simp [towlineref02_fits.j0])
    | succ kj1 =>
      have H := HA.out
      clear HA
      simp only [towlineref02_fits.j0] at H
      by_cases c7 : x11_1 = true
      · subst c7
        have H1 : (some false) = some r := by rw [if_pos rfl] at H; exact H
        clear H
        have H := H1
        clear H1
        obtain rfl := Option.some.inj H
        go_wp2
        go_ret
        exact ⟨by first | rfl | (simp [errW_none, errW_some] <;> rfl) | (simp [*, errW_none, errW_some] <;> rfl), by repeat (first | (with_reducible first | exact HB.out | apply below_alloc | apply pw_below_drewN | apply below_drew1 | refine below_set ?_ GE132.out) | exact HB.out)⟩
      · replace c7 := Bool.eq_false_iff.mpr c7
        subst c7
        have H1 : (if a0_0 = 64 then (if a0_2 = true then (some true) else (some (decide (a0_1 ≥ 0)))) else (towlineref02_fits.l0 kj1 1 (wrap64 (a0_0 - 1)) 0 a0_0 a0_1 a0_2)) = some r := by rw [if_neg (show ¬ (false = true) by decide)] at H; exact H
        clear H
        have H := H1
        clear H1
        by_cases c8 : a0_0 = 64
        · rw [if_pos c8] at H
          have c8b0 : (a0_0 == 64) = true := beq_iff_eq.mpr c8
          have c8b1 : (a0_0 != 64) = false := bne_eq_false_iff_eq.mpr c8
          clear c8
          by_cases c9 : a0_2 = true
          · subst c9
            have H1 : (some true) = some r := by rw [if_pos rfl] at H; exact H
            clear H
            have H := H1
            clear H1
            obtain rfl := Option.some.inj H
            have hcz10_0 : wc.cell? ⟨gb132, 0, none⟩ = some (.int .i64 a0_0) := (blk_cell BK132.out 0).trans rfl
            have hcz10_1 : wc.cell? ⟨gb132, 1, none⟩ = some (.int .i64 a0_1) := (blk_cell BK132.out 1).trans rfl
            have hcz10_2 : wc.cell? ⟨gb132, 2, none⟩ = some (.bool true) := (blk_cell BK132.out 2).trans rfl
            have hfz10_0 := blk_frozen BK132.out 0
            have hfz10_1 := blk_frozen BK132.out 1
            have hfz10_2 := blk_frozen BK132.out 2
            go_wp2
            go_ret
            exact ⟨by first | rfl | (simp [errW_none, errW_some] <;> rfl) | (simp [*, errW_none, errW_some] <;> rfl), by repeat (first | (with_reducible first | exact HB.out | apply below_alloc | apply pw_below_drewN | apply below_drew1 | refine below_set ?_ GE132.out) | exact HB.out)⟩
          · replace c9 := Bool.eq_false_iff.mpr c9
            subst c9
            have H1 : (some (decide (a0_1 ≥ 0))) = some r := by rw [if_neg (show ¬ (false = true) by decide)] at H; exact H
            clear H
            have H := H1
            clear H1
            obtain rfl := Option.some.inj H
            have hcz11_0 : wc.cell? ⟨gb132, 0, none⟩ = some (.int .i64 a0_0) := (blk_cell BK132.out 0).trans rfl
            have hcz11_1 : wc.cell? ⟨gb132, 1, none⟩ = some (.int .i64 a0_1) := (blk_cell BK132.out 1).trans rfl
            have hcz11_2 : wc.cell? ⟨gb132, 2, none⟩ = some (.bool false) := (blk_cell BK132.out 2).trans rfl
            have hfz11_0 := blk_frozen BK132.out 0
            have hfz11_1 := blk_frozen BK132.out 1
            have hfz11_2 := blk_frozen BK132.out 2
            go_wp2
            go_ret
            exact ⟨by first | rfl | (simp [errW_none, errW_some] <;> rfl) | (simp [*, errW_none, errW_some] <;> rfl), by repeat (first | (with_reducible first | exact HB.out | apply below_alloc | apply pw_below_drewN | apply below_drew1 | refine below_set ?_ GE132.out) | exact HB.out)⟩
        · rw [if_neg c8] at H
          have c8b0 : (a0_0 == 64) = false := beq_eq_false_iff_ne.mpr c8
          have c8b1 : (a0_0 != 64) = true := bne_iff_ne.mpr c8
          have H' := Aside0.mk H
          clear H
          have hcz12_0 : wc.cell? ⟨gb132, 0, none⟩ = some (.int .i64 a0_0) := (blk_cell BK132.out 0).trans rfl
          have hcz12_1 : wc.cell? ⟨gb132, 1, none⟩ = some (.int .i64 a0_1) := (blk_cell BK132.out 1).trans rfl
          have hcz12_2 : wc.cell? ⟨gb132, 2, none⟩ = some (.bool a0_2) := (blk_cell BK132.out 2).trans rfl
          have hfz12_0 := blk_frozen BK132.out 0
          have hfz12_1 := blk_frozen BK132.out 1
          have hfz12_2 := blk_frozen BK132.out 2
          go_wp2
          go_loopg [3, 25] kj1 (fun kq v3 v25 w' => ∃ (x3_2 : Int) (x25_2 : Int), v3 = .int .i64 x3_2 ∧ v25 = .int .i64 x25_2 ∧ Aside0 (towlineref02_fits.l0 kq x3_2 (wrap64 (a0_0 - 1)) x25_2 a0_0 a0_1 a0_2 = some r) ∧ Aside0 (kq ≤ kj1) ∧ Aside0 (w'.heap[gb132]? = some (.cells #[.int .i64 a0_0, .int .i64 a0_1, .bool a0_2] 56 (0, 0))) ∧ Aside0 (Below w.heap.size w w'))
          case atStart => exact ⟨(1), (0), (by first | rfl | (simp; done) | (simp [*]; done)), (by first | rfl | (simp; done) | (simp [*]; done)), H', ⟨Nat.le_refl _⟩, ⟨by (with_reducible repeat (first | refine blk_drewN ?_ _ | refine blk_drew ?_ | refine blk_alloc ?_ _)); exact BK132.out⟩, ⟨by repeat (first | (with_reducible first | exact HB.out | apply below_alloc | apply pw_below_drewN | apply below_drew1 | refine below_set ?_ GE132.out) | exact HB.out)⟩⟩
          case round =>
            clear H'
            try clear p2
            try clear c4
            try clear c4b0
            try clear c5
            try clear p6
            try clear c7
            try clear c8
            try clear c8b0
            try clear c8b1
            try clear c9
            try clear hcz10_0
            try clear hcz10_1
            try clear hcz10_2
            try clear hcz11_0
            try clear hcz11_1
            try clear hcz11_2
            try clear hcz12_0
            try clear hcz12_1
            try clear hcz12_2
            try clear hcz5_0
            try clear hcz5_1
            try clear hcz5_2
            try clear hcz6_0
            try clear hcz6_1
            try clear hcz6_2
            try clear hfz10_0
            try clear hfz10_1
            try clear hfz10_2
            try clear hfz11_0
            try clear hfz11_1
            try clear hfz11_2
            try clear hfz12_0
            try clear hfz12_1
            try clear hfz12_2
            try clear hfz5_0
            try clear hfz5_1
            try clear hfz5_2
            try clear hfz6_0
            try clear hfz6_1
            try clear hfz6_2
            try clear p2
            obtain ⟨x3_2, x25_2, rfl, rfl, HA, HK2, BK132, HB⟩ := hrel
            cases gk with
            | zero => exact absurd HA.out (by simp [towlineref02_fits.l0])
            | succ k2 =>
              have H := HA.out
              clear HA
              simp only [towlineref02_fits.l0] at H
              by_cases c13 : x25_2 < (wrap64 (a0_0 - 1))
              · rw [if_pos c13] at H
                have c13b0 : decide (x25_2 < (wrap64 (a0_0 - 1))) = true := decide_eq_true c13
                clear c13
                have H' := Aside0.mk H
                clear H
                go_wp2
                go_roundg k2
                case measure => have := HJ1.out; have := HK2.out; omega
                case rel => exact ⟨(wrap64 (2 * x3_2)), (wrap64 (x25_2 + 1)), (by first | rfl | (simp; done) | (simp [*]; done)), (by first | rfl | (simp; done) | (simp [*]; done)), H', ⟨by have := HJ1.out; have := HK2.out; omega⟩, ⟨by (with_reducible repeat (first | refine blk_drewN ?_ _ | refine blk_drew ?_ | refine blk_alloc ?_ _)); exact BK132.out⟩, ⟨by repeat (first | (with_reducible first | exact HB.out | apply below_alloc | apply pw_below_drewN | apply below_drew1 | refine below_set ?_ GE132.out) | exact HB.out)⟩⟩
              · rw [if_neg c13] at H
                have c13b0 : decide (x25_2 < (wrap64 (a0_0 - 1))) = false := decide_eq_false c13
                clear c13
                by_cases c14 : a0_2 = true
                · subst c14
                  have H1 : (if a0_1 ≥ (wrap64 (-x3_2)) then (some (decide (a0_1 ≤ (wrap64 (x3_2 - 1))))) else (some false)) = some r := by rw [if_pos rfl] at H; exact H
                  clear H
                  have H := H1
                  clear H1
                  by_cases c15 : a0_1 ≥ (wrap64 (-x3_2))
                  · rw [if_pos c15] at H
                    have c15b0 : decide ((wrap64 (-x3_2)) ≤ a0_1) = true := decide_eq_true c15
                    clear c15
                    obtain rfl := Option.some.inj H
                    have hcz16_0 : wr.cell? ⟨gb132, 0, none⟩ = some (.int .i64 a0_0) := (blk_cell BK132.out 0).trans rfl
                    have hcz16_1 : wr.cell? ⟨gb132, 1, none⟩ = some (.int .i64 a0_1) := (blk_cell BK132.out 1).trans rfl
                    have hcz16_2 : wr.cell? ⟨gb132, 2, none⟩ = some (.bool true) := (blk_cell BK132.out 2).trans rfl
                    have hfz16_0 := blk_frozen BK132.out 0
                    have hfz16_1 := blk_frozen BK132.out 1
                    have hfz16_2 := blk_frozen BK132.out 2
                    go_wp2
                    go_ret
                    exact ⟨by first | rfl | (simp [errW_none, errW_some] <;> rfl) | (simp [*, errW_none, errW_some] <;> rfl), by repeat (first | (with_reducible first | exact HB.out | apply below_alloc | apply pw_below_drewN | apply below_drew1 | refine below_set ?_ GE132.out) | exact HB.out)⟩
                  · rw [if_neg c15] at H
                    have c15b0 : decide ((wrap64 (-x3_2)) ≤ a0_1) = false := decide_eq_false c15
                    clear c15
                    obtain rfl := Option.some.inj H
                    have hcz17_0 : wr.cell? ⟨gb132, 0, none⟩ = some (.int .i64 a0_0) := (blk_cell BK132.out 0).trans rfl
                    have hcz17_1 : wr.cell? ⟨gb132, 1, none⟩ = some (.int .i64 a0_1) := (blk_cell BK132.out 1).trans rfl
                    have hcz17_2 : wr.cell? ⟨gb132, 2, none⟩ = some (.bool true) := (blk_cell BK132.out 2).trans rfl
                    have hfz17_0 := blk_frozen BK132.out 0
                    have hfz17_1 := blk_frozen BK132.out 1
                    have hfz17_2 := blk_frozen BK132.out 2
                    go_wp2
                    go_ret
                    exact ⟨by first | rfl | (simp [errW_none, errW_some] <;> rfl) | (simp [*, errW_none, errW_some] <;> rfl), by repeat (first | (with_reducible first | exact HB.out | apply below_alloc | apply pw_below_drewN | apply below_drew1 | refine below_set ?_ GE132.out) | exact HB.out)⟩
                · replace c14 := Bool.eq_false_iff.mpr c14
                  subst c14
                  have H1 : (if a0_1 ≥ 0 then (some (decide ((wrap64 (Int.tdiv a0_1 2)) ≤ (wrap64 (x3_2 - 1))))) else (some false)) = some r := by rw [if_neg (show ¬ (false = true) by decide)] at H; exact H
                  clear H
                  have H := H1
                  clear H1
                  by_cases c18 : a0_1 ≥ 0
                  · rw [if_pos c18] at H
                    have c18b0 : decide (0 ≤ a0_1) = true := decide_eq_true c18
                    clear c18
                    obtain rfl := Option.some.inj H
                    have hcz19_0 : wr.cell? ⟨gb132, 0, none⟩ = some (.int .i64 a0_0) := (blk_cell BK132.out 0).trans rfl
                    have hcz19_1 : wr.cell? ⟨gb132, 1, none⟩ = some (.int .i64 a0_1) := (blk_cell BK132.out 1).trans rfl
                    have hcz19_2 : wr.cell? ⟨gb132, 2, none⟩ = some (.bool false) := (blk_cell BK132.out 2).trans rfl
                    have hfz19_0 := blk_frozen BK132.out 0
                    have hfz19_1 := blk_frozen BK132.out 1
                    have hfz19_2 := blk_frozen BK132.out 2
                    go_wp2
                    go_ret
                    exact ⟨by first | rfl | (simp [errW_none, errW_some] <;> rfl) | (simp [*, errW_none, errW_some] <;> rfl), by repeat (first | (with_reducible first | exact HB.out | apply below_alloc | apply pw_below_drewN | apply below_drew1 | refine below_set ?_ GE132.out) | exact HB.out)⟩
                  · rw [if_neg c18] at H
                    have c18b0 : decide (0 ≤ a0_1) = false := decide_eq_false c18
                    clear c18
                    obtain rfl := Option.some.inj H
                    have hcz20_0 : wr.cell? ⟨gb132, 0, none⟩ = some (.int .i64 a0_0) := (blk_cell BK132.out 0).trans rfl
                    have hcz20_1 : wr.cell? ⟨gb132, 1, none⟩ = some (.int .i64 a0_1) := (blk_cell BK132.out 1).trans rfl
                    have hcz20_2 : wr.cell? ⟨gb132, 2, none⟩ = some (.bool false) := (blk_cell BK132.out 2).trans rfl
                    have hfz20_0 := blk_frozen BK132.out 0
                    have hfz20_1 := blk_frozen BK132.out 1
                    have hfz20_2 := blk_frozen BK132.out 2
                    go_wp2
                    go_ret
                    exact ⟨by first | rfl | (simp [errW_none, errW_some] <;> rfl) | (simp [*, errW_none, errW_some] <;> rfl), by repeat (first | (with_reducible first | exact HB.out | apply below_alloc | apply pw_below_drewN | apply below_drew1 | refine below_set ?_ GE132.out) | exact HB.out)⟩

-- NOT PRINTED: function 48 (towlineref02_Pack)


end Go.Proofs.Ytjkllkbdmkkndaa.PMaskUnpacks
namespace Go.Proofs.Ytjkllkbdmkkndaa.Pk
open Go Go.RowKit Go.Proofs.YtjkllkbdmkkndaaW.PrintWords Go.Proofs.YtjkllkbdmkkndaaW.PrintLast Go.Proofs.YtjkllkbdmkkndaaW.PrintMore Go.Proofs.Ytjkllkbdmkkndaa.Bits Go.Proofs.Ytjkllkbdmkkndaa.Ref
open Go.Proofs.Ytjkllkbdmkkndaa.PMaskUnpacks
def okTop (p v : Int) (s : Bool) : Bool := if s = true then decide (-p ≤ v) && decide (v < p) else decide (0 ≤ v) && decide (v < 2 * p)
theorem fits_l0 (n : Nat) (hn : 1 ≤ n) (hn2 : n ≤ 63) (v : Int) (s : Bool) (hv : -9223372036854775808 ≤ v) (hv2 : v ≤ 9223372036854775807) : ∀ d i, d = (n - 1) - i → i ≤ n - 1 → ∀ k, d < k → towlineref02_fits.l0 k ((2 : Int) ^ i) ((n - 1 : Nat) : Int) (i : Int) (n : Int) v s = some (okTop (2 ^ (n - 1)) v s) := by
  intro d
  induction d with
  | zero =>
    intro i hd hi k hk
    obtain rfl : i = n - 1 := by omega
    obtain ⟨k, rfl⟩ : ∃ m, k = m + 1 := ⟨k - 1, by omega⟩
    rw [towlineref02_fits.l0, if_neg (by omega)]
    have h1 := pow_pos_i (n - 1)
    have h2 : (2 : Int) ^ (n - 1) ≤ 4611686018427387904 := by
      have := Nat.pow_le_pow_right (show 0 < 2 by decide) (show n - 1 ≤ 62 by omega)
      rw [← pow_i]; omega
    generalize (2 : Int) ^ (n - 1) = p at *
    unfold okTop
    have w1 : wrap64 (-p) = -p := by unfold wrap64; omega
    have w2 : wrap64 (p - 1) = p - 1 := by unfold wrap64; omega
    rw [w1, w2]
    cases s with
    | true =>
      rw [if_pos rfl, if_pos rfl]
      by_cases c : v ≥ -p
      · rw [if_pos c, decide_eq_true (show -p ≤ v from c), Bool.true_and]; congr 1; apply decide_eq_decide.2; omega
      · rw [if_neg c, decide_eq_false (show ¬ -p ≤ v from c), Bool.false_and]
    | false =>
      rw [if_neg (show ¬ (false = true) by decide)]
      rw [show (if false = true then decide (-p ≤ v) && decide (v < p) else decide (0 ≤ v) && decide (v < 2 * p)) = (decide (0 ≤ v) && decide (v < 2 * p)) from rfl]
      by_cases c : v ≥ 0
      · have w3 : wrap64 (Int.tdiv v 2) = v / 2 := by rw [Int.tdiv_eq_ediv_of_nonneg c]; unfold wrap64; omega
        rw [if_pos c, w3, decide_eq_true (show 0 ≤ v from c), Bool.true_and]; congr 1; apply decide_eq_decide.2; omega
      · rw [if_neg c, decide_eq_false (show ¬ 0 ≤ v from c), Bool.false_and]
  | succ d ih =>
    intro i hd hi k hk
    obtain ⟨k, rfl⟩ : ∃ m, k = m + 1 := ⟨k - 1, by omega⟩
    rw [towlineref02_fits.l0, if_pos (by omega)]
    have h2 : (2 : Int) ^ i ≤ 2305843009213693952 := by
      have := Nat.pow_le_pow_right (show 0 < 2 by decide) (show i ≤ 61 by omega)
      rw [← pow_i]; omega
    have h1 := pow_pos_i i
    have w1 : wrap64 (2 * 2 ^ i) = 2 ^ (i + 1) := by
      rw [Int.pow_succ]
      generalize (2 : Int) ^ i = p at *
      unfold wrap64; omega
    rw [w1, show wrap64 ((i : Int) + 1) = ((i + 1 : Nat) : Int) by unfold wrap64; omega]
    exact ih (i + 1) (by omega) (by omega) k (by omega)
theorem fits_ref (b v : Int) (s : Bool) (h0 : -9223372036854775808 ≤ v) (h1 : v ≤ 9223372036854775807) : towlineref02_fits.f 70 b v s = some (fitsOk b v s) := by
  unfold towlineref02_fits.f fitsOk
  by_cases c1 : b < 1
  · rw [if_pos c1]; rw [towlineref02_fits.j0, if_pos rfl, decide_eq_false (show ¬ 1 ≤ b by omega)]; simp
  · rw [if_neg c1, towlineref02_fits.j0]
    by_cases c2 : b > 64
    · rw [if_pos (decide_eq_true c2), decide_eq_false (show ¬ b ≤ 64 by omega)]; simp
    · rw [if_neg (by simp; omega), decide_eq_true (show 1 ≤ b by omega), decide_eq_true (show b ≤ 64 by omega), Bool.true_and, Bool.true_and]
      obtain ⟨n, rfl⟩ := Int.eq_ofNat_of_zero_le (show 0 ≤ b by omega)
      rw [Int.toNat_natCast]
      by_cases c3 : (n : Int) = 64
      · rw [if_pos c3]
        obtain rfl : n = 64 := by omega
        cases s with
        | true => rw [if_pos rfl, if_pos rfl, decide_eq_true (show -(2 ^ (64 - 1)) ≤ v by omega), decide_eq_true (show v < 2 ^ (64 - 1) by omega)]; rfl
        | false => rw [if_neg (by decide), if_neg (by decide)]; congr 1; rw [decide_eq_true (show v < 2 ^ 64 by omega), Bool.and_true]
      · rw [if_neg c3]
        have e : wrap64 ((n : Int) - 1) = ((n - 1 : Nat) : Int) := by unfold wrap64; omega
        rw [e]
        have := fits_l0 n (by omega) (by omega) v s h0 h1 (n - 1 - 0) 0 rfl (by omega) 69 (by omega)
        have h2 : (2 : Int) ^ 0 = 1 := by decide
        rw [h2] at this
        rw [show ((0 : Nat) : Int) = 0 by rfl] at this
        rw [this]; unfold okTop
        have h3 : (2 : Int) * 2 ^ (n - 1) = 2 ^ n := by
          obtain ⟨m, rfl⟩ : ∃ m, n = m + 1 := ⟨n - 1, by omega⟩
          rw [show m + 1 - 1 = m by omega, Int.pow_succ, Int.mul_comm]
        rw [h3]
theorem Fits_calls (b v : Int) (s : Bool) (h0 : -9223372036854775808 ≤ v) (h1 : v ≤ 9223372036854775807) (w : World) :
    Calls Try.prog 57 #[.agg #[.int .i64 b, .int .i64 v, .bool s]] w fun e w' => e = .returned (.bool (fitsOk b v s)) ∧ Below w.heap.size w w' :=
  towlineref02_fits.calls 70 b v s _ w (fits_ref b v s h0 h1)
end Go.Proofs.Ytjkllkbdmkkndaa.Pk
