/- Texts that the row of LawTapePlays rests on, part 7 of 15: contracts of the functions, their walks, plain laws. -/
import Derived.Test.YtehjbhnlbjbhfaaBnTapePlays6
-- PTapePlaysx4
namespace Go.Proofs.Ytehjbhnlbjbhfaa.PTapePlays
open Go.RowKit Go.Proofs.YtehjbhnlbjbhfaaW.PrintWords Go.Proofs.YtehjbhnlbjbhfaaW.PrintLast Go.Proofs.YtehjbhnlbjbhfaaW.PrintMore
attribute [local go_sem] max2_int min2_int max_two min_two
set_option linter.unusedVariables false
set_option linter.unusedSimpArgs false
def bytes_Equal.f (l0 : List Int) (l1 : List Int) : Option (Bool) := some ((strOfNums l0).toList == (strOfNums l1).toList)
set_option maxHeartbeats 8000000 in
set_option maxRecDepth 100000 in
theorem bytes_Equal.calls (A0 : Option Addr) (c0 : Nat) (l0 : List Int) (A1 : Option Addr) (c1 : Nat) (l1 : List Int) (r : Bool) (w : World) (hr0 : Kd.C (Kd.int .u8) w A0 l0.length l0) (hc0 : l0.length ≤ c0) (hr1 : Kd.C (Kd.int .u8) w A1 l1.length l1) (hc1 : l1.length ≤ c1) (h : bytes_Equal.f l0 l1 = some r) :
    Calls Try.prog 22 #[.slice A0 l0.length c0, .slice A1 l1.length c1] w fun e w' => e = .returned (.bool r) ∧ Drawn0 w w' := by
  have HR0 := Aside0.mk hr0
  have HC0 := Aside0.mk hc0
  clear hr0 hc0
  have HR1 := Aside0.mk hr1
  have HC1 := Aside0.mk hc1
  clear hr1 hc1
  have H : (some ((strOfNums l0).toList == (strOfNums l1).toList)) = some r := h
  clear h
  obtain rfl := Option.some.inj H
  have hcv3 := Kd.C_string (P := Try.prog) (A := A0) (c := c0) Try.underlying32 Try.underlying5 Try.underlying9 HR0.out
  have hcv4 := Kd.C_string (P := Try.prog) (A := A1) (c := c1) Try.underlying32 Try.underlying5 Try.underlying9 HR1.out
  go_enter Try.func22, Try.ntmps22
  go_wp2
  go_ret
  exact ⟨by first | rfl | (simp; done) | (simp [*]; done), by repeat (first | exact Drawn0.refl _ | apply Drawn0.step)⟩
mutual
def towlinelaw06_short.l0 : Nat → Int → Int → List (List (S79)) → Int → Int → Option (Bool)
  | 0, _, _, _, _, _ => none
  | k + 1, x3, x4, x9, x10, x11 => if x11 < x10 then (if 0 ≤ x11 then (if x11 < (x9.length : Int) then (towlinelaw06_short.l1 k x3 x4 (rd_L8 x9 x11) 0 x9 x10 x11) else (none)) else (none)) else (if x4 ≤ 60 then (some (decide (x3 ≤ 16384))) else (some false))
def towlinelaw06_short.l1 : Nat → Int → Int → List (S79) → Int → List (List (S79)) → Int → Int → Option (Bool)
  | 0, _, _, _, _, _, _, _ => none
  | k + 1, x3, x4, x6, x7, x9, x10, x11 => if x7 < (x6.length : Int) then (if x4 ≤ 60 then (towlinelaw06_short.j2 k x3 x4 x6 x7 x9 x10 x11 (decide (x3 ≤ 16384))) else (towlinelaw06_short.j2 k x3 x4 x6 x7 x9 x10 x11 false)) else (towlinelaw06_short.j2 k x3 x4 x6 x7 x9 x10 x11 false)
def towlinelaw06_short.j2 : Nat → Int → Int → List (S79) → Int → List (List (S79)) → Int → Int → Bool → Option (Bool)
  | 0, _, _, _, _, _, _, _, _ => none
  | k + 1, x3, x4, x6, x7, x9, x10, x11, x26 => if x26 = true then (if 0 ≤ x7 then (if x7 < (x6.length : Int) then (towlinelaw06_short.l2 k (wrap64 (x3 + ((mn (((rd_T79 x6 x7).f2).length : Int) 16385) + (mn (((rd_T79 x6 x7).f4).length : Int) 16385)))) (wrap64 (x4 + 1)) x6 x7 0 x9 x10 x11) else (none)) else (none)) else (towlinelaw06_short.l0 k x3 x4 x9 x10 (wrap64 (x11 + 1)))
def towlinelaw06_short.l2 : Nat → Int → Int → List (S79) → Int → Int → List (List (S79)) → Int → Int → Option (Bool)
  | 0, _, _, _, _, _, _, _, _ => none
  | k + 1, x3, x4, x6, x7, x8, x9, x10, x11 => if 0 ≤ x7 then (if x7 < (x6.length : Int) then (if x8 < (((rd_T79 x6 x7).f3).length : Int) then (if x3 ≤ 16384 then (if 0 ≤ x8 then (towlinelaw06_short.l2 k (wrap64 (x3 + (4 + (mn ((rd_L1 ((rd_T79 x6 x7).f3) x8).length : Int) 16385)))) x4 x6 x7 (wrap64 (x8 + 1)) x9 x10 x11) else (none)) else (towlinelaw06_short.l1 k x3 x4 x6 (wrap64 (x7 + 1)) x9 x10 x11)) else (towlinelaw06_short.l1 k x3 x4 x6 (wrap64 (x7 + 1)) x9 x10 x11)) else (none)) else (none)
end
def towlinelaw06_short.f (k : Nat) (l0 : List (List (S79))) : Option (Bool) := towlinelaw06_short.l0 k 0 0 l0 (l0.length : Int) 0
set_option maxHeartbeats 8000000 in
set_option maxRecDepth 100000 in
theorem towlinelaw06_short.calls (k : Nat) (A0 : Option Addr) (c0 : Nat) (l0 : List (List (S79))) (r : Bool) (w : World) (hr0 : Kd.C (Kd.slice 79 k79) w A0 l0.length l0) (hc0 : l0.length ≤ c0) (h : towlinelaw06_short.f k l0 = some r) :
    Calls Try.prog 37 #[.slice A0 l0.length c0] w fun e w' => e = .returned (.bool r) ∧ Below w.heap.size w w' := by
  have HR0 := Aside0.mk hr0
  have HC0 := Aside0.mk hc0
  clear hr0 hc0
  have HB := Aside0.mk (Below.refl w.heap.size w)
  have H : (towlinelaw06_short.l0 k 0 0 l0 (l0.length : Int) 0) = some r := h
  clear h
  have H' := Aside0.mk H
  clear H
  go_enter Try.func37, Try.ntmps37
  go_wp2
  repeat (go_quiet (fail); try go_wp2)
  go_loopg [3, 4, 11] k (fun kq v3 v4 v11 w' => ∃ (x3_1 : Int) (x4_1 : Int) (x11_1 : Int), v3 = .int .i64 x3_1 ∧ v4 = .int .i64 x4_1 ∧ v11 = .int .i64 x11_1 ∧ Aside0 (towlinelaw06_short.l0 kq x3_1 x4_1 l0 (l0.length : Int) x11_1 = some r) ∧ Aside0 (kq ≤ k) ∧ Aside0 (Below w.heap.size w w'))
  case atStart => exact ⟨(0), (0), (0), (by first | rfl | (simp; done) | (simp [*]; done)), (by first | rfl | (simp; done) | (simp [*]; done)), (by first | rfl | (simp; done) | (simp [*]; done)), H', ⟨Nat.le_refl _⟩, ⟨by repeat (first | (with_reducible first | exact HB.out | apply below_alloc | apply pw_below_drewN | apply below_drew1) | exact HB.out)⟩⟩
  case round =>
    clear H'
    obtain ⟨x3_1, x4_1, x11_1, rfl, rfl, rfl, HA, HK1, HB⟩ := hrel
    cases gk with
    | zero => exact absurd HA.out (by simp [towlinelaw06_short.l0])
    | succ k1 =>
      have H := HA.out
      clear HA
      simp only [towlinelaw06_short.l0] at H
      by_cases c2 : x11_1 < (l0.length : Int)
      · rw [if_pos c2] at H
        have c2b0 : decide (x11_1 < (l0.length : Int)) = true := decide_eq_true c2
        clear c2
        by_cases c3 : 0 ≤ x11_1
        · rw [if_pos c3] at H
          have c3b0 : decide (0 ≤ x11_1) = true := decide_eq_true c3
          clear c3
          by_cases c4 : x11_1 < (l0.length : Int)
          · rw [if_pos c4] at H
            have c4b0 : decide (x11_1 < (l0.length : Int)) = true := decide_eq_true c4
            clear c4
            have H' := Aside0.mk H
            clear H
            have p221 : 0 ≤ (x11_1 : Int) := of_decide_eq_true (by first | (with_reducible assumption) | assumption)
            have q221 : x11_1 < (l0.length : Int) := of_decide_eq_true (by first | (with_reducible assumption) | assumption)
            obtain ⟨ad221, A221_0, c221_0, e221, hx221_0, hl221_0, hi221_0⟩ := at_L8 HR0.out x11_1 p221 q221
            cases e221
            replace hx221_0 := (HB.out.cell (World.block_lt_of_cell? w _ hx221_0)).trans hx221_0
            have HR221_0 := Aside0.mk hi221_0
            have HC221_0 := Aside0.mk hl221_0
            clear hi221_0 hl221_0
            replace p221 := eq_true p221
            replace q221 := eq_true q221
            go_wp2
            repeat (go_quiet (fail); try go_wp2)
            go_loopg [3, 4, 7] k1 (fun kq v3 v4 v7 w' => ∃ (x3_2 : Int) (x4_2 : Int) (x7_2 : Int), v3 = .int .i64 x3_2 ∧ v4 = .int .i64 x4_2 ∧ v7 = .int .i64 x7_2 ∧ Aside0 (towlinelaw06_short.l1 kq x3_2 x4_2 (rd_L8 l0 x11_1) x7_2 l0 (l0.length : Int) x11_1 = some r) ∧ Aside0 (kq ≤ k1) ∧ Aside0 (Below w.heap.size w w'))
            case atStart => exact ⟨(x3_1), (x4_1), (0), (by first | rfl | (simp; done) | (simp [*]; done)), (by first | rfl | (simp; done) | (simp [*]; done)), (by first | rfl | (simp; done) | (simp [*]; done)), H', ⟨Nat.le_refl _⟩, ⟨by repeat (first | (with_reducible first | exact HB.out | apply below_alloc | apply pw_below_drewN | apply below_drew1) | exact HB.out)⟩⟩
            case round =>
              clear H'
              try clear c2
              try clear c2b0
              try clear p2
              try clear q2
              try clear hx2
              try clear c3
              try clear c3b0
              try clear c4
              try clear c4b0
              try clear hx221_0
              try clear p221
              try clear q221
              obtain ⟨x3_2, x4_2, x7_2, rfl, rfl, rfl, HA, HK2, HB⟩ := hrel
              cases gk with
              | zero => exact absurd HA.out (by simp [towlinelaw06_short.l1])
              | succ k2 =>
                have H := HA.out
                clear HA
                simp only [towlinelaw06_short.l1] at H
                have HC5 := Aside0.mk H
                clear H
                go_upto_region 6 with (fail)
                repeat (go_quiet (fail); go_upto_region 6 with (fail))
                go_cut [26] (fun v26 wc => ∃ (kq : Nat) (x26_4 : Bool), v26 = .bool x26_4 ∧ Aside0 (towlinelaw06_short.j2 kq x3_2 x4_2 (rd_L8 l0 x11_1) x7_2 l0 (l0.length : Int) x11_1 x26_4 = some r) ∧ Aside0 (kq ≤ k2) ∧ Aside0 (Below w.heap.size w wc))
                case first =>
                  have H := HC5.out
                  clear HC5
                  by_cases c6 : x7_2 < ((rd_L8 l0 x11_1).length : Int)
                  · rw [if_pos c6] at H
                    have c6b0 : decide (x7_2 < ((rd_L8 l0 x11_1).length : Int)) = true := decide_eq_true c6
                    clear c6
                    (first | rw [c6b0] | (simp only [i64_w, i32_w]; rw [c6b0]) | skip)
                    by_cases c7 : x4_2 ≤ 60
                    · rw [if_pos c7] at H
                      have c7b0 : decide (x4_2 ≤ 60) = true := decide_eq_true c7
                      clear c7
                      have H' := Aside0.mk H
                      clear H
                      go_wp2
                      repeat (go_quiet (fail); try go_wp2)
                      go_meet
                      case rel => exact ⟨_, (decide (x3_2 ≤ 16384)), (by first | rfl | (simp; done) | (simp [*]; done)), H', ⟨by have := HK1.out; have := HK2.out; first | omega | exact Nat.le_refl _⟩, ⟨by repeat (first | (with_reducible first | exact HB.out | apply below_alloc | apply pw_below_drewN | apply below_drew1) | exact HB.out)⟩⟩
                    · rw [if_neg c7] at H
                      have c7b0 : decide (x4_2 ≤ 60) = false := decide_eq_false c7
                      clear c7
                      have H' := Aside0.mk H
                      clear H
                      go_wp2
                      repeat (go_quiet (fail); try go_wp2)
                      go_meet
                      case rel => exact ⟨_, (false), (by first | rfl | (simp; done) | (simp [*]; done)), H', ⟨by have := HK1.out; have := HK2.out; first | omega | exact Nat.le_refl _⟩, ⟨by repeat (first | (with_reducible first | exact HB.out | apply below_alloc | apply pw_below_drewN | apply below_drew1) | exact HB.out)⟩⟩
                  · rw [if_neg c6] at H
                    have c6b0 : decide (x7_2 < ((rd_L8 l0 x11_1).length : Int)) = false := decide_eq_false c6
                    clear c6
                    (first | rw [c6b0] | (simp only [i64_w, i32_w]; rw [c6b0]) | skip)
                    have H' := Aside0.mk H
                    clear H
                    go_wp2
                    repeat (go_quiet (fail); try go_wp2)
                    go_meet
                    case rel => exact ⟨_, (false), (by first | rfl | (simp; done) | (simp [*]; done)), H', ⟨by have := HK1.out; have := HK2.out; first | omega | exact Nat.le_refl _⟩, ⟨by repeat (first | (with_reducible first | exact HB.out | apply below_alloc | apply pw_below_drewN | apply below_drew1) | exact HB.out)⟩⟩
                case rest =>
                  clear HC5
                  try clear c2
                  try clear c2b0
                  try clear p2
                  try clear q2
                  try clear hx2
                  try clear c3
                  try clear c3b0
                  try clear c4
                  try clear c4b0
                  try clear c6
                  try clear c6b0
                  try clear c7
                  try clear c7b0
                  try clear hx221_0
                  try clear p2
                  try clear p221
                  try clear q2
                  try clear q221
                  obtain ⟨kq, x26_4, rfl, HA, HJ4, HB⟩ := hcut
                  cases kq with
                  | zero => exact absurd HA.out (by simp [towlinelaw06_short.j2])
                  | succ kj4 =>
                    have H := HA.out
                    clear HA
                    simp only [towlinelaw06_short.j2] at H
                    by_cases c8 : x26_4 = true
                    · subst c8
                      have H1 : (if 0 ≤ x7_2 then (if x7_2 < ((rd_L8 l0 x11_1).length : Int) then (towlinelaw06_short.l2 kj4 (wrap64 (x3_2 + ((mn (((rd_T79 (rd_L8 l0 x11_1) x7_2).f2).length : Int) 16385) + (mn (((rd_T79 (rd_L8 l0 x11_1) x7_2).f4).length : Int) 16385)))) (wrap64 (x4_2 + 1)) (rd_L8 l0 x11_1) x7_2 0 l0 (l0.length : Int) x11_1) else (none)) else (none)) = some r := by rw [if_pos rfl] at H; exact H
                      clear H
                      have H := H1
                      clear H1
                      by_cases c9 : 0 ≤ x7_2
                      · rw [if_pos c9] at H
                        have c9b0 : decide (0 ≤ x7_2) = true := decide_eq_true c9
                        clear c9
                        by_cases c10 : x7_2 < ((rd_L8 l0 x11_1).length : Int)
                        · rw [if_pos c10] at H
                          have c10b0 : decide (x7_2 < ((rd_L8 l0 x11_1).length : Int)) = true := decide_eq_true c10
                          clear c10
                          obtain ⟨ji11, hji11⟩ : ∃ j_ : Int, (mn (((rd_T79 (rd_L8 l0 x11_1) x7_2).f2).length : Int) 16385) = j_ := ⟨_, rfl⟩
                          replace H : (towlinelaw06_short.l2 kj4 (wrap64 (x3_2 + ((ji11) + (mn (((rd_T79 (rd_L8 l0 x11_1) x7_2).f4).length : Int) 16385)))) (wrap64 (x4_2 + 1)) (rd_L8 l0 x11_1) x7_2 0 l0 (l0.length : Int) x11_1) = some r := by first | (rw [hji11] at H; exact H) | (simp only [hji11] at H ⊢; exact H)
                          have hji11_ : (if 16385 < (((rd_T79 (rd_L8 l0 x11_1) x7_2).f2).length : Int) then 16385 else (((rd_T79 (rd_L8 l0 x11_1) x7_2).f2).length : Int)) = ji11 := hji11
                          obtain ⟨ji12, hji12⟩ : ∃ j_ : Int, (mn (((rd_T79 (rd_L8 l0 x11_1) x7_2).f4).length : Int) 16385) = j_ := ⟨_, rfl⟩
                          replace H : (towlinelaw06_short.l2 kj4 (wrap64 (x3_2 + ((ji11) + (ji12)))) (wrap64 (x4_2 + 1)) (rd_L8 l0 x11_1) x7_2 0 l0 (l0.length : Int) x11_1) = some r := by first | (rw [hji12] at H; exact H) | (simp only [hji12] at H ⊢; exact H)
                          have hji12_ : (if 16385 < (((rd_T79 (rd_L8 l0 x11_1) x7_2).f4).length : Int) then 16385 else (((rd_T79 (rd_L8 l0 x11_1) x7_2).f4).length : Int)) = ji12 := hji12
                          have H' := Aside0.mk H
                          clear H
                          have p222 : 0 ≤ (x7_2 : Int) := of_decide_eq_true (by first | (with_reducible assumption) | assumption)
                          have q222 : x7_2 < ((rd_L8 l0 x11_1).length : Int) := of_decide_eq_true (by first | (with_reducible assumption) | assumption)
                          obtain ⟨ad222, A222_2, c222_2, A222_3, c222_3, A222_4, c222_4, e222, hx222_0, hx222_1, hx222_2, hx222_3, hx222_4, hl222_2, hi222_2, hl222_3, hi222_3, hl222_4, hi222_4⟩ := at_T79 HR221_0.out x7_2 p222 q222
                          cases e222
                          replace hx222_0 := (HB.out.cell (World.block_lt_of_cell? w _ hx222_0)).trans hx222_0
                          replace hx222_1 := (HB.out.cell (World.block_lt_of_cell? w _ hx222_1)).trans hx222_1
                          replace hx222_2 := (HB.out.cell (World.block_lt_of_cell? w _ hx222_2)).trans hx222_2
                          replace hx222_3 := (HB.out.cell (World.block_lt_of_cell? w _ hx222_3)).trans hx222_3
                          replace hx222_4 := (HB.out.cell (World.block_lt_of_cell? w _ hx222_4)).trans hx222_4
                          have HR222_2 := Aside0.mk hi222_2
                          have HC222_2 := Aside0.mk hl222_2
                          clear hi222_2 hl222_2
                          have HR222_3 := Aside0.mk hi222_3
                          have HC222_3 := Aside0.mk hl222_3
                          clear hi222_3 hl222_3
                          have HR222_4 := Aside0.mk hi222_4
                          have HC222_4 := Aside0.mk hl222_4
                          clear hi222_4 hl222_4
                          replace p222 := eq_true p222
                          replace q222 := eq_true q222
                          have p223 : 0 ≤ (x7_2 : Int) := of_decide_eq_true (by first | (with_reducible assumption) | assumption)
                          have q223 : x7_2 < ((rd_L8 l0 x11_1).length : Int) := of_decide_eq_true (by first | (with_reducible assumption) | assumption)
                          obtain ⟨ad223, A223_2, c223_2, A223_3, c223_3, A223_4, c223_4, e223, hx223_0, hx223_1, hx223_2, hx223_3, hx223_4, hl223_2, hi223_2, hl223_3, hi223_3, hl223_4, hi223_4⟩ := at_T79 HR221_0.out x7_2 p223 q223
                          obtain rfl : ad222 = ad223 := (by injection e223)
                          replace hx223_0 := (HB.out.cell (World.block_lt_of_cell? w _ hx223_0)).trans hx223_0
                          replace hx223_1 := (HB.out.cell (World.block_lt_of_cell? w _ hx223_1)).trans hx223_1
                          replace hx223_2 := (HB.out.cell (World.block_lt_of_cell? w _ hx223_2)).trans hx223_2
                          replace hx223_3 := (HB.out.cell (World.block_lt_of_cell? w _ hx223_3)).trans hx223_3
                          replace hx223_4 := (HB.out.cell (World.block_lt_of_cell? w _ hx223_4)).trans hx223_4
                          have HR223_2 := Aside0.mk hi223_2
                          have HC223_2 := Aside0.mk hl223_2
                          clear hi223_2 hl223_2
                          have HR223_3 := Aside0.mk hi223_3
                          have HC223_3 := Aside0.mk hl223_3
                          clear hi223_3 hl223_3
                          have HR223_4 := Aside0.mk hi223_4
                          have HC223_4 := Aside0.mk hl223_4
                          clear hi223_4 hl223_4
                          replace p223 := eq_true p223
                          replace q223 := eq_true q223
                          have ea_ := Option.some.inj (hx222_2.symm.trans hx223_2)
                          injection ea_ with ea_ en_ ec_
                          subst ea_
                          subst ec_
                          clear en_
                          have ea_ := Option.some.inj (hx222_3.symm.trans hx223_3)
                          injection ea_ with ea_ en_ ec_
                          subst ea_
                          subst ec_
                          clear en_
                          have ea_ := Option.some.inj (hx222_4.symm.trans hx223_4)
                          injection ea_ with ea_ en_ ec_
                          subst ea_
                          subst ec_
                          clear en_
                          go_wp2
                          repeat (go_quiet (fail); try go_wp2)
                          go_loopg [3, 8] kj4 (fun kq v3 v8 w' => ∃ (x3_4 : Int) (x8_4 : Int), v3 = .int .i64 x3_4 ∧ v8 = .int .i64 x8_4 ∧ Aside0 (towlinelaw06_short.l2 kq x3_4 (wrap64 (x4_2 + 1)) (rd_L8 l0 x11_1) x7_2 x8_4 l0 (l0.length : Int) x11_1 = some r) ∧ Aside0 (kq ≤ kj4) ∧ Aside0 (Below w.heap.size w w'))
                          case atStart => exact ⟨(wrap64 (x3_2 + ((ji11) + (ji12)))), (0), (by first | rfl | (simp; done) | (simp only [← hji11, ← hji12] <;> (first | rfl | simp)) | (simp [*]; done)), (by first | rfl | (simp; done) | (simp [*]; done)), H', ⟨Nat.le_refl _⟩, ⟨by repeat (first | (with_reducible first | exact HB.out | apply below_alloc | apply pw_below_drewN | apply below_drew1) | exact HB.out)⟩⟩
                          case round =>
                            clear H'
                            try clear c1
                            try clear c2
                            try clear c2b0
                            try clear p2
                            try clear q2
                            try clear hx2
                            try clear c3
                            try clear c3b0
                            try clear c4
                            try clear c4b0
                            try clear c6
                            try clear c6b0
                            try clear p6
                            try clear c7
                            try clear c7b0
                            try clear c8
                            try clear c9
                            try clear c9b0
                            try clear c10
                            try clear c10b0
                            try clear hx221_0
                            try clear hx222_0
                            try clear hx222_1
                            try clear hx222_2
                            try clear hx222_3
                            try clear hx222_4
                            try clear hx223_0
                            try clear hx223_1
                            try clear hx223_2
                            try clear hx223_3
                            try clear hx223_4
                            try clear p2
                            try clear p221
                            try clear p222
                            try clear p223
                            try clear q2
                            try clear q221
                            try clear q222
                            try clear q223
                            obtain ⟨x3_4, x8_4, rfl, rfl, HA, HK4, HB⟩ := hrel
                            cases gk with
                            | zero => exact absurd HA.out (by simp [towlinelaw06_short.l2])
                            | succ k4 =>
                              have H := HA.out
                              clear HA
                              simp only [towlinelaw06_short.l2] at H
                              by_cases c13 : 0 ≤ x7_2
                              · rw [if_pos c13] at H
                                have c13b0 : decide (0 ≤ x7_2) = true := decide_eq_true c13
                                clear c13
                                by_cases c14 : x7_2 < ((rd_L8 l0 x11_1).length : Int)
                                · rw [if_pos c14] at H
                                  have c14b0 : decide (x7_2 < ((rd_L8 l0 x11_1).length : Int)) = true := decide_eq_true c14
                                  clear c14
                                  by_cases c15 : x8_4 < (((rd_T79 (rd_L8 l0 x11_1) x7_2).f3).length : Int)
                                  · rw [if_pos c15] at H
                                    have c15b0 : decide (x8_4 < (((rd_T79 (rd_L8 l0 x11_1) x7_2).f3).length : Int)) = true := decide_eq_true c15
                                    clear c15
                                    by_cases c16 : x3_4 ≤ 16384
                                    · rw [if_pos c16] at H
                                      have c16b0 : decide (x3_4 ≤ 16384) = true := decide_eq_true c16
                                      clear c16
                                      by_cases c17 : 0 ≤ x8_4
                                      · rw [if_pos c17] at H
                                        have c17b0 : decide (0 ≤ x8_4) = true := decide_eq_true c17
                                        clear c17
                                        obtain ⟨ji18, hji18⟩ : ∃ j_ : Int, (mn ((rd_L1 ((rd_T79 (rd_L8 l0 x11_1) x7_2).f3) x8_4).length : Int) 16385) = j_ := ⟨_, rfl⟩
                                        replace H : (towlinelaw06_short.l2 k4 (wrap64 (x3_4 + (4 + (ji18)))) (wrap64 (x4_2 + 1)) (rd_L8 l0 x11_1) x7_2 (wrap64 (x8_4 + 1)) l0 (l0.length : Int) x11_1) = some r := by first | (rw [hji18] at H; exact H) | (simp only [hji18] at H ⊢; exact H)
                                        have hji18_ : (if 16385 < ((rd_L1 ((rd_T79 (rd_L8 l0 x11_1) x7_2).f3) x8_4).length : Int) then 16385 else ((rd_L1 ((rd_T79 (rd_L8 l0 x11_1) x7_2).f3) x8_4).length : Int)) = ji18 := hji18
                                        have H' := Aside0.mk H
                                        clear H
                                        have p224 : 0 ≤ (x7_2 : Int) := of_decide_eq_true (by first | (with_reducible assumption) | assumption)
                                        have q224 : x7_2 < ((rd_L8 l0 x11_1).length : Int) := of_decide_eq_true (by first | (with_reducible assumption) | assumption)
                                        obtain ⟨ad224, A224_2, c224_2, A224_3, c224_3, A224_4, c224_4, e224, hx224_0, hx224_1, hx224_2, hx224_3, hx224_4, hl224_2, hi224_2, hl224_3, hi224_3, hl224_4, hi224_4⟩ := at_T79 HR221_0.out x7_2 p224 q224
                                        obtain rfl : ad222 = ad224 := (by injection e224)
                                        replace hx224_0 := (HB.out.cell (World.block_lt_of_cell? w _ hx224_0)).trans hx224_0
                                        replace hx224_1 := (HB.out.cell (World.block_lt_of_cell? w _ hx224_1)).trans hx224_1
                                        replace hx224_2 := (HB.out.cell (World.block_lt_of_cell? w _ hx224_2)).trans hx224_2
                                        replace hx224_3 := (HB.out.cell (World.block_lt_of_cell? w _ hx224_3)).trans hx224_3
                                        replace hx224_4 := (HB.out.cell (World.block_lt_of_cell? w _ hx224_4)).trans hx224_4
                                        have HR224_2 := Aside0.mk hi224_2
                                        have HC224_2 := Aside0.mk hl224_2
                                        clear hi224_2 hl224_2
                                        have HR224_3 := Aside0.mk hi224_3
                                        have HC224_3 := Aside0.mk hl224_3
                                        clear hi224_3 hl224_3
                                        have HR224_4 := Aside0.mk hi224_4
                                        have HC224_4 := Aside0.mk hl224_4
                                        clear hi224_4 hl224_4
                                        replace p224 := eq_true p224
                                        replace q224 := eq_true q224
                                        have p225 : 0 ≤ (x7_2 : Int) := of_decide_eq_true (by first | (with_reducible assumption) | assumption)
                                        have q225 : x7_2 < ((rd_L8 l0 x11_1).length : Int) := of_decide_eq_true (by first | (with_reducible assumption) | assumption)
                                        obtain ⟨ad225, A225_2, c225_2, A225_3, c225_3, A225_4, c225_4, e225, hx225_0, hx225_1, hx225_2, hx225_3, hx225_4, hl225_2, hi225_2, hl225_3, hi225_3, hl225_4, hi225_4⟩ := at_T79 HR221_0.out x7_2 p225 q225
                                        obtain rfl : ad222 = ad225 := (by injection e225)
                                        replace hx225_0 := (HB.out.cell (World.block_lt_of_cell? w _ hx225_0)).trans hx225_0
                                        replace hx225_1 := (HB.out.cell (World.block_lt_of_cell? w _ hx225_1)).trans hx225_1
                                        replace hx225_2 := (HB.out.cell (World.block_lt_of_cell? w _ hx225_2)).trans hx225_2
                                        replace hx225_3 := (HB.out.cell (World.block_lt_of_cell? w _ hx225_3)).trans hx225_3
                                        replace hx225_4 := (HB.out.cell (World.block_lt_of_cell? w _ hx225_4)).trans hx225_4
                                        have HR225_2 := Aside0.mk hi225_2
                                        have HC225_2 := Aside0.mk hl225_2
                                        clear hi225_2 hl225_2
                                        have HR225_3 := Aside0.mk hi225_3
                                        have HC225_3 := Aside0.mk hl225_3
                                        clear hi225_3 hl225_3
                                        have HR225_4 := Aside0.mk hi225_4
                                        have HC225_4 := Aside0.mk hl225_4
                                        clear hi225_4 hl225_4
                                        replace p225 := eq_true p225
                                        replace q225 := eq_true q225
                                        have ea_ := Option.some.inj (hx224_2.symm.trans hx225_2)
                                        injection ea_ with ea_ en_ ec_
                                        subst ea_
                                        subst ec_
                                        clear en_
                                        have ea_ := Option.some.inj (hx224_3.symm.trans hx225_3)
                                        injection ea_ with ea_ en_ ec_
                                        subst ea_
                                        subst ec_
                                        clear en_
                                        have ea_ := Option.some.inj (hx224_4.symm.trans hx225_4)
                                        injection ea_ with ea_ en_ ec_
                                        subst ea_
                                        subst ec_
                                        clear en_
                                        have p226 : 0 ≤ (x8_4 : Int) := of_decide_eq_true (by first | (with_reducible assumption) | assumption)
                                        have q226 : x8_4 < (((rd_T79 (rd_L8 l0 x11_1) x7_2).f3).length : Int) := of_decide_eq_true (by first | (with_reducible assumption) | assumption)
                                        obtain ⟨ad226, A226_0, c226_0, e226, hx226_0, hl226_0, hi226_0⟩ := at_L1 HR225_3.out x8_4 p226 q226
                                        cases e226
                                        replace hx226_0 := (HB.out.cell (World.block_lt_of_cell? w _ hx226_0)).trans hx226_0
                                        have HR226_0 := Aside0.mk hi226_0
                                        have HC226_0 := Aside0.mk hl226_0
                                        clear hi226_0 hl226_0
                                        replace p226 := eq_true p226
                                        replace q226 := eq_true q226
                                        go_wp2
                                        repeat (go_quiet (fail); try go_wp2)
                                        go_roundg k4
                                        case measure => have := HK1.out; have := HK2.out; have := HJ4.out; have := HK4.out; omega
                                        case rel => exact ⟨(wrap64 (x3_4 + (4 + (ji18)))), (wrap64 (x8_4 + 1)), (by first | rfl | (simp; done) | (simp only [← hji18] <;> (first | rfl | simp)) | (simp [*]; done)), (by first | rfl | (simp; done) | (simp [*]; done)), H', ⟨by have := HK1.out; have := HK2.out; have := HJ4.out; have := HK4.out; omega⟩, ⟨by repeat (first | (with_reducible first | exact HB.out | apply below_alloc | apply pw_below_drewN | apply below_drew1) | exact HB.out)⟩⟩
                                      · rw [if_neg c17] at H
                                        exact absurd H (by simp)
                                    · rw [if_neg c16] at H
                                      have c16b0 : decide (x3_4 ≤ 16384) = false := decide_eq_false c16
                                      clear c16
                                      have H' := Aside0.mk H
                                      clear H
                                      have p224 : 0 ≤ (x7_2 : Int) := of_decide_eq_true (by first | (with_reducible assumption) | assumption)
                                      have q224 : x7_2 < ((rd_L8 l0 x11_1).length : Int) := of_decide_eq_true (by first | (with_reducible assumption) | assumption)
                                      obtain ⟨ad224, A224_2, c224_2, A224_3, c224_3, A224_4, c224_4, e224, hx224_0, hx224_1, hx224_2, hx224_3, hx224_4, hl224_2, hi224_2, hl224_3, hi224_3, hl224_4, hi224_4⟩ := at_T79 HR221_0.out x7_2 p224 q224
                                      obtain rfl : ad222 = ad224 := (by injection e224)
                                      replace hx224_0 := (HB.out.cell (World.block_lt_of_cell? w _ hx224_0)).trans hx224_0
                                      replace hx224_1 := (HB.out.cell (World.block_lt_of_cell? w _ hx224_1)).trans hx224_1
                                      replace hx224_2 := (HB.out.cell (World.block_lt_of_cell? w _ hx224_2)).trans hx224_2
                                      replace hx224_3 := (HB.out.cell (World.block_lt_of_cell? w _ hx224_3)).trans hx224_3
                                      replace hx224_4 := (HB.out.cell (World.block_lt_of_cell? w _ hx224_4)).trans hx224_4
                                      have HR224_2 := Aside0.mk hi224_2
                                      have HC224_2 := Aside0.mk hl224_2
                                      clear hi224_2 hl224_2
                                      have HR224_3 := Aside0.mk hi224_3
                                      have HC224_3 := Aside0.mk hl224_3
                                      clear hi224_3 hl224_3
                                      have HR224_4 := Aside0.mk hi224_4
                                      have HC224_4 := Aside0.mk hl224_4
                                      clear hi224_4 hl224_4
                                      replace p224 := eq_true p224
                                      replace q224 := eq_true q224
                                      go_wp2
                                      repeat (go_quiet (fail); try go_wp2)
                                      go_roundg k4
                                      case measure => have := HK1.out; have := HK2.out; have := HJ4.out; have := HK4.out; omega
                                      case rel => exact ⟨(x3_4), ((wrap64 (x4_2 + 1))), (wrap64 (x7_2 + 1)), (by first | rfl | (simp; done) | (simp [*]; done)), (by first | rfl | (simp; done) | (simp [*]; done)), (by first | rfl | (simp; done) | (simp [*]; done)), H', ⟨by have := HK1.out; have := HK2.out; have := HJ4.out; have := HK4.out; omega⟩, ⟨by repeat (first | (with_reducible first | exact HB.out | apply below_alloc | apply pw_below_drewN | apply below_drew1) | exact HB.out)⟩⟩
                                  · rw [if_neg c15] at H
                                    have c15b0 : decide (x8_4 < (((rd_T79 (rd_L8 l0 x11_1) x7_2).f3).length : Int)) = false := decide_eq_false c15
                                    clear c15
                                    have H' := Aside0.mk H
                                    clear H
                                    have p224 : 0 ≤ (x7_2 : Int) := of_decide_eq_true (by first | (with_reducible assumption) | assumption)
                                    have q224 : x7_2 < ((rd_L8 l0 x11_1).length : Int) := of_decide_eq_true (by first | (with_reducible assumption) | assumption)
                                    obtain ⟨ad224, A224_2, c224_2, A224_3, c224_3, A224_4, c224_4, e224, hx224_0, hx224_1, hx224_2, hx224_3, hx224_4, hl224_2, hi224_2, hl224_3, hi224_3, hl224_4, hi224_4⟩ := at_T79 HR221_0.out x7_2 p224 q224
                                    obtain rfl : ad222 = ad224 := (by injection e224)
                                    replace hx224_0 := (HB.out.cell (World.block_lt_of_cell? w _ hx224_0)).trans hx224_0
                                    replace hx224_1 := (HB.out.cell (World.block_lt_of_cell? w _ hx224_1)).trans hx224_1
                                    replace hx224_2 := (HB.out.cell (World.block_lt_of_cell? w _ hx224_2)).trans hx224_2
                                    replace hx224_3 := (HB.out.cell (World.block_lt_of_cell? w _ hx224_3)).trans hx224_3
                                    replace hx224_4 := (HB.out.cell (World.block_lt_of_cell? w _ hx224_4)).trans hx224_4
                                    have HR224_2 := Aside0.mk hi224_2
                                    have HC224_2 := Aside0.mk hl224_2
                                    clear hi224_2 hl224_2
                                    have HR224_3 := Aside0.mk hi224_3
                                    have HC224_3 := Aside0.mk hl224_3
                                    clear hi224_3 hl224_3
                                    have HR224_4 := Aside0.mk hi224_4
                                    have HC224_4 := Aside0.mk hl224_4
                                    clear hi224_4 hl224_4
                                    replace p224 := eq_true p224
                                    replace q224 := eq_true q224
                                    go_wp2
                                    repeat (go_quiet (fail); try go_wp2)
                                    go_roundg k4
                                    case measure => have := HK1.out; have := HK2.out; have := HJ4.out; have := HK4.out; omega
                                    case rel => exact ⟨(x3_4), ((wrap64 (x4_2 + 1))), (wrap64 (x7_2 + 1)), (by first | rfl | (simp; done) | (simp [*]; done)), (by first | rfl | (simp; done) | (simp [*]; done)), (by first | rfl | (simp; done) | (simp [*]; done)), H', ⟨by have := HK1.out; have := HK2.out; have := HJ4.out; have := HK4.out; omega⟩, ⟨by repeat (first | (with_reducible first | exact HB.out | apply below_alloc | apply pw_below_drewN | apply below_drew1) | exact HB.out)⟩⟩
                                · rw [if_neg c14] at H
                                  exact absurd H (by simp)
                              · rw [if_neg c13] at H
                                exact absurd H (by simp)
                        · rw [if_neg c10] at H
                          exact absurd H (by simp)
                      · rw [if_neg c9] at H
                        exact absurd H (by simp)
                    · replace c8 := Bool.eq_false_iff.mpr c8
                      subst c8
                      have H1 : (towlinelaw06_short.l0 kj4 x3_2 x4_2 l0 (l0.length : Int) (wrap64 (x11_1 + 1))) = some r := by rw [if_neg (show ¬ (false = true) by decide)] at H; exact H
                      clear H
                      have H := H1
                      clear H1
                      have H' := Aside0.mk H
                      clear H
                      go_wp2
                      repeat (go_quiet (fail); try go_wp2)
                      go_roundg kj4
                      case measure => have := HK1.out; have := HK2.out; have := HJ4.out; omega
                      case rel => exact ⟨(x3_2), (x4_2), (wrap64 (x11_1 + 1)), (by first | rfl | (simp; done) | (simp [*]; done)), (by first | rfl | (simp; done) | (simp [*]; done)), (by first | rfl | (simp; done) | (simp [*]; done)), H', ⟨by have := HK1.out; have := HK2.out; have := HJ4.out; omega⟩, ⟨by repeat (first | (with_reducible first | exact HB.out | apply below_alloc | apply pw_below_drewN | apply below_drew1) | exact HB.out)⟩⟩
          · rw [if_neg c4] at H
            exact absurd H (by simp)
        · rw [if_neg c3] at H
          exact absurd H (by simp)
      · rw [if_neg c2] at H
        have c2b0 : decide (x11_1 < (l0.length : Int)) = false := decide_eq_false c2
        clear c2
        by_cases c19 : x4_1 ≤ 60
        · rw [if_pos c19] at H
          have c19b0 : decide (x4_1 ≤ 60) = true := decide_eq_true c19
          clear c19
          obtain rfl := Option.some.inj H
          go_wp2
          repeat (go_quiet (fail); try go_wp2)
          go_ret
          exact ⟨by first | rfl | (simp [errW_none, errW_some] <;> rfl) | (simp [*, errW_none, errW_some] <;> rfl), by repeat (first | (with_reducible first | exact HB.out | apply below_alloc | apply pw_below_drewN | apply below_drew1) | exact HB.out)⟩
        · rw [if_neg c19] at H
          have c19b0 : decide (x4_1 ≤ 60) = false := decide_eq_false c19
          clear c19
          obtain rfl := Option.some.inj H
          go_wp2
          repeat (go_quiet (fail); try go_wp2)
          go_ret
          exact ⟨by first | rfl | (simp [errW_none, errW_some] <;> rfl) | (simp [*, errW_none, errW_some] <;> rfl), by repeat (first | (with_reducible first | exact HB.out | apply below_alloc | apply pw_below_drewN | apply below_drew1) | exact HB.out)⟩
def slices_Clone_int_int.f (l0 : List Int) : Option (List Int) := if l0.length < 17592186044416 then some l0 else none
def towlinelaw06_texts.l0 : Nat → List ByteArray → List (List Int) → Int → Int → Option (List ByteArray)
  | 0, _, _, _, _ => none
  | k + 1, x3, x6, x7, x8 => if x8 < x7 then (if 0 ≤ x8 then (if x8 < (x6.length : Int) then (if x3.length < 8796093022208 then (towlinelaw06_texts.l0 k (x3 ++ [strOfNums (rd_L1 x6 x8)]) x6 x7 (wrap64 (x8 + 1))) else (none)) else (none)) else (none)) else (some x3)
def towlinelaw06_texts.f (k : Nat) (l0 : List (List Int)) : Option (List ByteArray) := towlinelaw06_texts.l0 k ([] : List ByteArray) l0 (l0.length : Int) 0
set_option maxHeartbeats 8000000 in
set_option maxRecDepth 100000 in
theorem towlinelaw06_texts.calls (k : Nat) (A0 : Option Addr) (c0 : Nat) (l0 : List (List Int)) (r : List ByteArray) (w : World) (hr0 : Kd.C (Kd.slice 5 (Kd.int .u8)) w A0 l0.length l0) (hc0 : l0.length ≤ c0) (h : towlinelaw06_texts.f k l0 = some r) :
    Calls Try.prog 43 #[.slice A0 l0.length c0] w fun e w' => ∃ v0_ : Value, e = .returned (v0_) ∧ Kd.R Kd.string 9 w' w.heap.size (fun _ => True) v0_ r ∧ Below w.heap.size w w' := by
  have HR0 := Aside0.mk hr0
  have HC0 := Aside0.mk hc0
  clear hr0 hc0
  have HB := Aside0.mk (Below.refl w.heap.size w)
  have H : (towlinelaw06_texts.l0 k ([] : List ByteArray) l0 (l0.length : Int) 0) = some r := h
  clear h
  have H' := Aside0.mk H
  clear H
  go_enter Try.func43, Try.ntmps43
  go_wp2
  go_loopg [3, 8] k (fun kq v3 v8 w' => ∃ (x3_1 : List ByteArray) (x8_1 : Int), v8 = .int .i64 x8_1 ∧ Aside0 (towlinelaw06_texts.l0 kq x3_1 l0 (l0.length : Int) x8_1 = some r) ∧ Aside0 (kq ≤ k) ∧ Aside0 (Kd.R Kd.string 9 w' w.heap.size (fun _ => True) v3 x3_1) ∧ Aside0 (Below w.heap.size w w'))
  case atStart => exact ⟨(([] : List ByteArray)), (0), (by first | rfl | (simp; done) | (simp [*]; done)), H', ⟨Nat.le_refl _⟩, ⟨by first | exact Kd.R_nil _ _ _ _ _ | exact Kd.N_nil _ _ _ _ _ | exact Kd.V_nil _ _ _ _ _ | exact Kd.Q_nil _ _ _ _ _ | exact Kd.S_nil _ _ _ _ _⟩, ⟨by repeat (first | (with_reducible first | exact HB.out | apply below_alloc | apply pw_below_drewN | apply below_drew1) | exact HB.out)⟩⟩
  case round =>
    clear H'
    obtain ⟨x3_1, x8_1, rfl, HA, HK1, HO_3, HB⟩ := hrel
    cases gk with
    | zero => exact absurd HA.out (by simp [towlinelaw06_texts.l0])
    | succ k1 =>
      have H := HA.out
      clear HA
      simp only [towlinelaw06_texts.l0] at H
      by_cases c2 : x8_1 < (l0.length : Int)
      · rw [if_pos c2] at H
        have c2b0 : decide (x8_1 < (l0.length : Int)) = true := decide_eq_true c2
        clear c2
        by_cases c3 : 0 ≤ x8_1
        · rw [if_pos c3] at H
          have c3b0 : decide (0 ≤ x8_1) = true := decide_eq_true c3
          clear c3
          by_cases c4 : x8_1 < (l0.length : Int)
          · rw [if_pos c4] at H
            have c4b0 : decide (x8_1 < (l0.length : Int)) = true := decide_eq_true c4
            clear c4
            by_cases c5 : x3_1.length < 8796093022208
            · rw [if_pos c5] at H
              have LMc5 := Aside0.mk c5
              clear c5
              obtain ⟨y228, hy228⟩ : ∃ y_ : List ByteArray, y_ = (x3_1 ++ [strOfNums (rd_L1 l0 x8_1)]) := ⟨_, rfl⟩
              replace H : (towlinelaw06_texts.l0 k1 y228 l0 (l0.length : Int) (wrap64 (x8_1 + 1))) = some r := by first | (rw [hy228]; with_reducible exact H) | (have H2_ := (Option.bind_some _ _).symm.trans H; rw [hy228]; with_reducible exact H2_) | (have H2_ := (Option.bind_some _ _).symm.trans H; with_reducible exact H2_) | with_reducible exact H | (rw [hy228]; exact H) | exact H
              have Ny228 := Aside0.mk hy228
              clear hy228
              have H' := Aside0.mk H
              clear H
              have p227 : 0 ≤ (x8_1 : Int) := of_decide_eq_true (by first | (with_reducible assumption) | assumption)
              have q227 : x8_1 < (l0.length : Int) := of_decide_eq_true (by first | (with_reducible assumption) | assumption)
              obtain ⟨ad227, A227_0, c227_0, e227, hx227_0, hl227_0, hi227_0⟩ := at_L1 HR0.out x8_1 p227 q227
              cases e227
              replace hx227_0 := (HB.out.cell (World.block_lt_of_cell? w _ hx227_0)).trans hx227_0
              have HR227_0 := Aside0.mk hi227_0
              have HC227_0 := Aside0.mk hl227_0
              clear hi227_0 hl227_0
              replace p227 := eq_true p227
              replace q227 := eq_true q227
              have hcv6 := Kd.C_string (P := Try.prog) (A := A227_0) (c := c227_0) Try.underlying32 Try.underlying5 Try.underlying9 (Kd.C_below HR227_0.out HB.out)
              go_wp2_with (first | ((with_reducible refine gate_builtin (b := .append) (xs := #[.tmp 12, .tmp 15]) rfl ?_); at_builtin; refine Kd.R_append Kd.string (w0 := w) w.heap.size rfl (.tmp 12) (.tmp 15) 81 9 (.string ⟨#[]⟩) 16 rfl Try.underlying81 info9 rfl (by decide) (by omega) u3 x3_1 (strOfNums (rd_L1 l0 x8_1)) [.string (strOfNums (rd_L1 l0 x8_1))] (fun _ => True) (fun _ => False) rfl rfl ?aP (fun _ hk => hk.elim) ?aF ?aO ?aB ?aS ?aL ?_; (case aP => exact rfl); (case aB => exact (by repeat (first | (with_reducible first | exact HB.out | apply below_alloc | apply pw_below_drewN | apply below_drew1) | exact HB.out))); (case aF => exact (fun _ _ => trivial)); (case aO => exact (by (with_reducible repeat (first | apply Kd.R_alloc | apply Kd.R_drewN | apply Kd.R_drew)); exact HO_3.out)); (case aS => exact (below_size (by repeat (first | (with_reducible first | exact HB.out | apply below_alloc | apply pw_below_drewN | apply below_drew1) | exact HB.out)))); (case aL => have := LMc5.out; omega); intro v229 w7 ho hb hg hat; rw [← Ny228.out] at ho; have n0_ := Aside0.mk (hb); have n1_ := Aside0.mk (ho); clear HB; clear HO_3; have HB := n0_; have HO230 := n1_; clear n0_ n1_; clear ho hb hg hat))
              go_roundg k1
              case measure => have := HK1.out; omega
              case rel => exact ⟨(y228), (wrap64 (x8_1 + 1)), (by first | rfl | (simp; done) | (simp [*]; done)), H', ⟨by have := HK1.out; omega⟩, ⟨by (with_reducible repeat (first | apply Kd.R_alloc | apply Kd.R_drewN | apply Kd.R_drew)); exact HO230.out⟩, ⟨by repeat (first | (with_reducible first | exact HB.out | apply below_alloc | apply pw_below_drewN | apply below_drew1) | exact HB.out)⟩⟩
            · rw [if_neg c5] at H
              exact absurd H (by simp)
          · rw [if_neg c4] at H
            exact absurd H (by simp)
        · rw [if_neg c3] at H
          exact absurd H (by simp)
      · rw [if_neg c2] at H
        have c2b0 : decide (x8_1 < (l0.length : Int)) = false := decide_eq_false c2
        clear c2
        obtain rfl := Option.some.inj H
        go_wp2
        go_ret
        exact ⟨_, by first | rfl | (simp [errW_none, errW_some] <;> rfl) | (simp [*, errW_none, errW_some] <;> rfl), by (with_reducible repeat (first | apply Kd.R_alloc | apply Kd.R_drewN | apply Kd.R_drew)); exact HO_3.out, by repeat (first | (with_reducible first | exact HB.out | apply below_alloc | apply pw_below_drewN | apply below_drew1) | exact HB.out)⟩
end Go.Proofs.Ytehjbhnlbjbhfaa.PTapePlays
-- PTapePlaysx
namespace Go.Proofs.Ytehjbhnlbjbhfaa.PTapePlays
open Go.RowKit Go.Proofs.YtehjbhnlbjbhfaaW.PrintWords Go.Proofs.YtehjbhnlbjbhfaaW.PrintLast Go.Proofs.YtehjbhnlbjbhfaaW.PrintMore
attribute [local go_sem] max2_int min2_int max_two min_two
set_option linter.unusedVariables false
set_option linter.unusedSimpArgs false
end Go.Proofs.Ytehjbhnlbjbhfaa.PTapePlays
-- AllC
namespace Go.Proofs.Ytehjbhnlbjbhfaa.Wk
open Go Go.RowKit Go.Proofs.YtehjbhnlbjbhfaaW.PrintWords Go.Proofs.YtehjbhnlbjbhfaaW.PrintLast Go.Proofs.YtehjbhnlbjbhfaaW.PrintMore Go.Proofs.Ytehjbhnlbjbhfaa.Wire
set_option linter.unusedVariables false
theorem info32 : (Try.prog.info? 32).map (fun i => (i.zero, i.size, i.bytes)) = some (some (.slice none 0 0), 1, 24) := by kernel_rfl
def allGo : Nat → List Int → Nat → List (List Int) × Nat
  | 0, _, n => ([], n)
  | f + 1, l, n => if (openP (l.drop n)).2.2 ≠ 0 then ([], n) else ((openP (l.drop n)).1 :: (allGo f l (n + (openP (l.drop n)).2.1)).1, (allGo f l (n + (openP (l.drop n)).2.1)).2)
def allP (l : List Int) : List (List Int) × Nat := allGo (l.length + 1) l 0
abbrev KdB : Kd (List Int) := Kd.slice 5 (Kd.int .u8)
def AS (w : World) (l0 : List Int) (f n : Nat) (outs : List (List Int)) (v : Value) (W : World) : Prop :=
  Kd.R KdB 32 W w.heap.size (fun _ => True) v outs ∧ Below w.heap.size w W
theorem AS.below {w : World} {l0 : List Int} {f n : Nat} {outs : List (List Int)} {v : Value} {W W' : World} (h : AS w l0 f n outs v W) (hb : Below W.heap.size W W') : AS w l0 f n outs v W' := ⟨Kd.R_below h.1 hb, below_step h.2 hb⟩
def AP (l0 : List Int) (f n : Nat) (outs : List (List Int)) : Prop := n ≤ l0.length ∧ l0.length - n < f ∧ allP l0 = (outs ++ (allGo f l0 n).1, (allGo f l0 n).2) ∧ outs.length ≤ n
theorem AP.step {l0 : List Int} {f n : Nat} {outs : List (List Int)} (h : AP l0 (f + 1) n outs) (hs : Bs l0) {d : List Int} {k : Nat} (he : openP (l0.drop n) = (d, k, 0)) : AP l0 f (n + k) (outs ++ [d]) ∧ n + k ≤ l0.length := by
  obtain ⟨h1, h2, h3, h4⟩ := h
  obtain ⟨_, a2, a3⟩ := open_canon (hs.drop n) he
  have hsl := seal_len d
  rw [a3, List.length_take] at hsl
  rw [List.length_drop] at a2 hsl
  have hk : 4 ≤ k := by omega
  refine ⟨⟨by omega, by omega, ?_, by rw [List.length_append, List.length_singleton]; omega⟩, by omega⟩
  rw [h3]
  have e : allGo (f + 1) l0 n = (d :: (allGo f l0 (n + k)).1, (allGo f l0 (n + k)).2) := by
    rw [allGo, he]
    simp
  rw [e]
  simp
theorem AP.stop {l0 : List Int} {f n : Nat} {outs : List (List Int)} (h : AP l0 (f + 1) n outs) (he : (openP (l0.drop n)).2.2 ≠ 0) : allP l0 = (outs, n) := by
  obtain ⟨h1, h2, h3, h4⟩ := h
  rw [h3, allGo, if_pos he]
  simp
set_option maxHeartbeats 8000000 in
set_option maxRecDepth 100000 in
theorem All_calls (A0 : Option Addr) (c0 : Nat) (l0 : List Int) (w : World) (hr0 : Kd.C (Kd.int .u8) w A0 l0.length l0) (hc0 : l0.length ≤ c0) (hs : Bs l0) (hlen : l0.length < 1000000000) :
    Calls Try.prog 78 #[.slice A0 l0.length c0] w fun e w' => ∃ v, e = .returned (.tuple #[v, .int .i64 ((allP l0).2 : Int)]) ∧ Kd.R KdB 32 w' w.heap.size (fun _ => True) v (allP l0).1 ∧ Below w.heap.size w w' := by
  have HR0 := Aside0.mk hr0
  have HC0 := Aside0.mk hc0
  have HS := Aside0.mk hs
  have HL := Aside0.mk hlen
  obtain ⟨i0, hi0, _, hz1, _⟩ := info_parts Go.Proofs.Ytehjbhnlbjbhfaa.Wire.info5
  have HINF := Aside0.mk (And.intro hi0 hz1)
  clear hi0 hz1 hr0 hc0 hs hlen
  have H0 := Aside0.mk (show AS w l0 (l0.length + 1) 0 [] (.slice none 0 0) w from ⟨Kd.R_nil _ _ _ _ _, Below.refl _ _⟩)
  have P0 := Aside0.mk (show AP l0 (l0.length + 1) 0 [] from ⟨Nat.zero_le _, by omega, by simp [allP], Nat.le_refl _⟩)
  go_enter Try.func78, Try.ntmps78
  go_wp2_with (fail)
  go_loopg [4, 5] (l0.length + 1) (fun f v4 v5 wr => ∃ (n : Nat) (outs : List (List Int)) (A : Option Addr) (c : Nat), v4 = .slice A outs.length c ∧ v5 = .int .i64 (n : Int) ∧ Aside0 (AS w l0 f n outs (.slice A outs.length c) wr) ∧ Aside0 (AP l0 f n outs))
  case atStart => exact ⟨0, [], none, 0, rfl, rfl, H0, P0⟩
  case round =>
    obtain ⟨n, outs, A, c, rfl, rfl, H, P⟩ := hrel
    clear H0 P0
    obtain ⟨f, rfl⟩ : ∃ f, gk = f + 1 := ⟨gk - 1, by have := P.out.2.1; omega⟩
    have HCUT := cut_from (P := Try.prog) 32 5 .i64 Try.underlying32 HINF.out.1 1 HINF.out.2 A0 l0.length c0 (n : Int) (by omega) (by have := P.out.1; omega)
    have HCX := Aside0.mk (Kd.C_drop (c := c0) (Kd.C_below HR0.out H.out.2) P.out.1 HC0.out)
    rw [Int.toNat_natCast] at HCUT
    rw [show n * (Kd.int IntKind.u8).sz = n * 1 from rfl] at HCX
    generalize (if c0 = n then A0 else A0.map (·.add (n * 1))) = AX at HCUT HCX
    have HXL := Aside0.mk (show (l0.drop n).length = l0.length - n from List.length_drop)
    rw [← HXL.out] at HCUT
    have HXC := Aside0.mk (show (l0.drop n).length ≤ c0 - n by have h1 := HC0.out; have h2 := HXL.out; omega)
    have HXS := Aside0.mk (HS.out.drop n)
    have HXB := Aside0.mk (show (l0.drop n).length < 140737488355328 by have h1 := HL.out; have h2 := HXL.out; omega)
    obtain ⟨X, hX⟩ : ∃ X, l0.drop n = X := ⟨_, rfl⟩
    have HX := Aside0.mk hX
    rw [hX] at HCUT HCX HXL HXC HXS HXB
    clear hX
    by_cases eo : (openP X).2.2 = 0
    · obtain ⟨dd, k, hon⟩ : ∃ dd k, openP X = (dd, k, 0) := ⟨(openP X).1, (openP X).2.1, by rw [← eo]⟩
      have HON := Aside0.mk hon
      have PS := Aside0.mk (P.out.step HS.out (by rw [HX.out]; exact hon))
      clear hon eo
      go_wp2_with (fail)
      refine (Open_calls AX (c0 - n) X _ HCX.out HXC.out HXS.out HXB.out).mono ?_
      rw [HON.out]
      rintro e w5 ⟨v5, rfl, hR, hB⟩
      obtain ⟨A5, c5, rfl⟩ := Kd.R_slice hR
      have HM := Aside0.mk (show Kd.M KdB w5 w.heap.size (fun k => wr.heap.size ≤ k) dd [.slice A5 dd.length c5] from ⟨_, rfl, Kd.R_lower (Kd.R_mono (Kd.R_bound hR) (fun k hk => hk.2.1)) H.out.2.size⟩)
      have HF := Aside0.mk (Kd.fresh_ok H.out.1)
      have H1 := Aside0.mk (H.out.below hB)
      have HLN := Aside0.mk (show (outs.length + 1) * 24 ≤ 140737488355328 by have h1 := HL.out; have h2 := P.out.2.2.2; have h3 := P.out.1; omega)
      have HW := Aside0.mk (show wrap64 ((n : Int) + (k : Int)) = ((n + k : Nat) : Int) by
        have h1 := PS.out.2; have h2 := HL.out
        unfold wrap64; omega)
      clear hR hB H HCUT
      go_wp2_with (first | ((with_reducible refine gate_builtin (b := .append) (xs := #[.tmp 21, .tmp 23]) rfl ?_); at_builtin; refine Kd.R_append KdB (w0 := w) w.heap.size rfl (.tmp 21) (.tmp 23) 46 32 (.slice none 0 0) 24 rfl Try.underlying46 info32 rfl (by decide) (by omega) (.slice A outs.length c) outs dd [.slice A5 dd.length c5] (fun _ => True) (fun k => wr.heap.size ≤ k) rfl rfl HM.out (fun k hk => ⟨trivial, HF.out k hk⟩) (fun _ _ => trivial) H1.out.1 H1.out.2 H1.out.2.size HLN.out ?_; intro v1 w7 h1 h2 h3 _; have HR7 := Aside0.mk h1; have HB7 := Aside0.mk h2; clear h1 h2 h3))
      obtain ⟨A7, c7, e7⟩ := Kd.R_slice HR7.out
      subst e7
      rw [HW.out]
      go_roundg f
      case rel => exact ⟨n + k, outs ++ [dd], A7, c7, rfl, rfl, ⟨HR7.out, HB7.out⟩, ⟨PS.out.1⟩⟩
      case measure => omega
    · have HE := Aside0.mk eo
      have PS := Aside0.mk (P.out.stop (by rw [HX.out]; exact eo))
      have heo3 : ((openP X).2.2 != (0 : Int)) = true := by simpa using eo
      have heo2 : ((openP X).2.2 == (0 : Int)) = false := by simpa using eo
      clear eo
      go_wp2_with (fail)
      refine (Open_calls AX (c0 - n) X _ HCX.out HXC.out HXS.out HXB.out).mono ?_
      rintro e w5 ⟨v5, rfl, hR, hB⟩
      have H1 := Aside0.mk (H.out.below hB)
      clear hR hB H HCUT
      generalize (openP X).2.2 = er at *
      go_wp2_with (fail)
      go_ret2
      exact ⟨_, by rw [PS.out]; rfl, by rw [PS.out]; exact H1.out.1, H1.out.2⟩
theorem bb_get {w : World} {A : Option Addr} {n : Nat} {ls : List (List Int)} (h : Kd.C KdB w A n ls) (i : Nat) (hi : i < n) : ∃ ad A1 c1, A = some ad ∧ (ls.getD i []).length ≤ c1 ∧ Kd.C (Kd.int .u8) w A1 (ls.getD i []).length (ls.getD i []) ∧ w.cell? (ad.add i) = some (.slice A1 (ls.getD i []).length c1) := by
  obtain ⟨ad, cs, hA, hl, ⟨A1, c1, rfl, hc, hC⟩, hcell⟩ := Kd.C_get h [] (i : Int) (by omega) (by omega)
  rw [Int.toNat_natCast] at hc hC hcell
  refine ⟨ad, A1, c1, hA, hc, hC, ?_⟩
  have := hcell 0 _ rfl
  rw [show i * KdB.sz + 0 = i from by show i * 1 + 0 = i; omega] at this
  exact this
end Go.Proofs.Ytehjbhnlbjbhfaa.Wk
