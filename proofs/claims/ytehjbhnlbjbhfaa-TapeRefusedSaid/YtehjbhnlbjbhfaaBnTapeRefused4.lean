/- Texts that the row of LawTapeRefused rests on, part 4 of 6: contracts of the functions, their walks, plain laws. -/
import Derived.Test.YtehjbhnlbjbhfaaBnTapeRefused3
import Derived.IntWalk
import Derived.RegionTactic
import Derived.ChangeAlike
import Derived.Lib.SlBytesConst
-- PTapePlaysx4
namespace Go.Proofs.Ytehjbhnlbjbhfaa.PTapePlays
open Go.RowKit Go.Proofs.YtehjbhnlbjbhfaaW.PrintWords Go.Proofs.YtehjbhnlbjbhfaaW.PrintLast Go.Proofs.YtehjbhnlbjbhfaaW.PrintMore
set_option linter.unusedVariables false
set_option linter.unusedSimpArgs false
def bytes_Equal.f (l0 : List Int) (l1 : List Int) : Option (Bool) := some ((strOfNums l0).toList == (strOfNums l1).toList)
set_option maxHeartbeats 8000000 in
set_option maxRecDepth 100000 in
theorem bytes_Equal.calls (A0 : Option Addr) (c0 : Nat) (l0 : List Int) (A1 : Option Addr) (c1 : Nat) (l1 : List Int) (r : Bool) (w : World) (hr0 : Kd.C (Kd.int .u8) w A0 l0.length l0) (hc0 : l0.length ≤ c0) (hr1 : Kd.C (Kd.int .u8) w A1 l1.length l1) (hc1 : l1.length ≤ c1) (h : bytes_Equal.f l0 l1 = some r) :
    Calls Try.prog 22 #[.slice A0 l0.length c0, .slice A1 l1.length c1] w fun e w' => e = .returned (.bool r) ∧ Drawn0 w w' := by
  have HR0 := Aside0.mk hr0
  have HC0 := Aside0.mk hc0
  clear hr0 hc0
  have HR1 := Aside0.mk hr1
  have HC1 := Aside0.mk hc1
  clear hr1 hc1
  have H : (some ((strOfNums l0).toList == (strOfNums l1).toList)) = some r := h
  clear h
  obtain rfl := Option.some.inj H
  have hcv3 := Kd.C_string (P := Try.prog) (A := A0) (c := c0) Try.underlying32 Try.underlying5 Try.underlying9 HR0.out
  have hcv4 := Kd.C_string (P := Try.prog) (A := A1) (c := c1) Try.underlying32 Try.underlying5 Try.underlying9 HR1.out
  go_enter Try.func22, Try.ntmps22
  go_wp2
  go_ret
  exact ⟨by first | rfl | (simp; done) | (simp [*]; done), by repeat (first | exact Drawn0.refl _ | apply Drawn0.step)⟩
mutual
def towlinelaw06_short.l0 : Nat → Int → Int → List (List (S79)) → Int → Int → Option (Bool)
  | 0, _, _, _, _, _ => none
  | k + 1, x3, x4, x9, x10, x11 => if x11 < x10 then (if 0 ≤ x11 then (if x11 < (x9.length : Int) then (towlinelaw06_short.l1 k x3 x4 (rd_L8 x9 x11) 0 x9 x10 x11) else (none)) else (none)) else (if x4 ≤ 60 then (some (decide (x3 ≤ 16384))) else (some false))
def towlinelaw06_short.l1 : Nat → Int → Int → List (S79) → Int → List (List (S79)) → Int → Int → Option (Bool)
  | 0, _, _, _, _, _, _, _ => none
  | k + 1, x3, x4, x6, x7, x9, x10, x11 => if x7 < (x6.length : Int) then (if x4 ≤ 60 then (towlinelaw06_short.j2 k x3 x4 x6 x7 x9 x10 x11 (decide (x3 ≤ 16384))) else (towlinelaw06_short.j2 k x3 x4 x6 x7 x9 x10 x11 false)) else (towlinelaw06_short.j2 k x3 x4 x6 x7 x9 x10 x11 false)
def towlinelaw06_short.j2 : Nat → Int → Int → List (S79) → Int → List (List (S79)) → Int → Int → Bool → Option (Bool)
  | 0, _, _, _, _, _, _, _, _ => none
  | k + 1, x3, x4, x6, x7, x9, x10, x11, x26 => if x26 = true then (if 0 ≤ x7 then (if x7 < (x6.length : Int) then (towlinelaw06_short.l2 k (wrap64 (x3 + ((mn (((rd_T79 x6 x7).f2).length : Int) 16385) + (mn (((rd_T79 x6 x7).f4).length : Int) 16385)))) (wrap64 (x4 + 1)) x6 x7 0 x9 x10 x11) else (none)) else (none)) else (towlinelaw06_short.l0 k x3 x4 x9 x10 (wrap64 (x11 + 1)))
def towlinelaw06_short.l2 : Nat → Int → Int → List (S79) → Int → Int → List (List (S79)) → Int → Int → Option (Bool)
  | 0, _, _, _, _, _, _, _, _ => none
  | k + 1, x3, x4, x6, x7, x8, x9, x10, x11 => if 0 ≤ x7 then (if x7 < (x6.length : Int) then (if x8 < (((rd_T79 x6 x7).f3).length : Int) then (if x3 ≤ 16384 then (if 0 ≤ x8 then (towlinelaw06_short.l2 k (wrap64 (x3 + (4 + (mn ((rd_L1 ((rd_T79 x6 x7).f3) x8).length : Int) 16385)))) x4 x6 x7 (wrap64 (x8 + 1)) x9 x10 x11) else (none)) else (towlinelaw06_short.l1 k x3 x4 x6 (wrap64 (x7 + 1)) x9 x10 x11)) else (towlinelaw06_short.l1 k x3 x4 x6 (wrap64 (x7 + 1)) x9 x10 x11)) else (none)) else (none)
end
def towlinelaw06_short.f (k : Nat) (l0 : List (List (S79))) : Option (Bool) := towlinelaw06_short.l0 k 0 0 l0 (l0.length : Int) 0
theorem towlinelaw06_short.mono_l : ∀ k, (∀ y0 y1 y2 y3 y4, LeO (towlinelaw06_short.l0 k y0 y1 y2 y3 y4) (towlinelaw06_short.l0 (k + 1) y0 y1 y2 y3 y4)) ∧ (∀ y0 y1 y2 y3 y4 y5 y6, LeO (towlinelaw06_short.l1 k y0 y1 y2 y3 y4 y5 y6) (towlinelaw06_short.l1 (k + 1) y0 y1 y2 y3 y4 y5 y6)) ∧ (∀ y0 y1 y2 y3 y4 y5 y6 y7, LeO (towlinelaw06_short.j2 k y0 y1 y2 y3 y4 y5 y6 y7) (towlinelaw06_short.j2 (k + 1) y0 y1 y2 y3 y4 y5 y6 y7)) ∧ (∀ y0 y1 y2 y3 y4 y5 y6 y7, LeO (towlinelaw06_short.l2 k y0 y1 y2 y3 y4 y5 y6 y7) (towlinelaw06_short.l2 (k + 1) y0 y1 y2 y3 y4 y5 y6 y7))
  | 0 => ⟨fun _ _ _ _ _ r h => by simp [towlinelaw06_short.l0] at h, fun _ _ _ _ _ _ _ r h => by simp [towlinelaw06_short.l1] at h, fun _ _ _ _ _ _ _ _ r h => by simp [towlinelaw06_short.j2] at h, fun _ _ _ _ _ _ _ _ r h => by simp [towlinelaw06_short.l2] at h⟩
  | k + 1 => by
    obtain ⟨ih0, ih1, ih2, ih3⟩ := towlinelaw06_short.mono_l k
    refine ⟨?_, ?_, ?_, ?_⟩
    · intro y0 y1 y2 y3 y4
      unfold towlinelaw06_short.l0
      repeat' first
      | (with_reducible exact ih0 _ _ _ _ _)
      | (with_reducible exact ih1 _ _ _ _ _ _ _)
      | (with_reducible exact ih2 _ _ _ _ _ _ _ _)
      | (with_reducible exact ih3 _ _ _ _ _ _ _ _)
      | (with_reducible exact LeO.refl _)
      | (with_reducible exact LeO.none _)
      | (with_reducible refine LeO.ite ?_ ?_)
      | (with_reducible refine LeO.bind ?_ (fun _ => ?_))
      | exact ih0 _ _ _ _ _
      | exact ih1 _ _ _ _ _ _ _
      | exact ih2 _ _ _ _ _ _ _ _
      | exact ih3 _ _ _ _ _ _ _ _
      | exact LeO.none _
      | refine LeO.ite ?_ ?_
      | refine LeO.bind ?_ (fun _ => ?_)
    · intro y0 y1 y2 y3 y4 y5 y6
      unfold towlinelaw06_short.l1
      repeat' first
      | (with_reducible exact ih0 _ _ _ _ _)
      | (with_reducible exact ih1 _ _ _ _ _ _ _)
      | (with_reducible exact ih2 _ _ _ _ _ _ _ _)
      | (with_reducible exact ih3 _ _ _ _ _ _ _ _)
      | (with_reducible exact LeO.refl _)
      | (with_reducible exact LeO.none _)
      | (with_reducible refine LeO.ite ?_ ?_)
      | (with_reducible refine LeO.bind ?_ (fun _ => ?_))
      | exact ih0 _ _ _ _ _
      | exact ih1 _ _ _ _ _ _ _
      | exact ih2 _ _ _ _ _ _ _ _
      | exact ih3 _ _ _ _ _ _ _ _
      | exact LeO.none _
      | refine LeO.ite ?_ ?_
      | refine LeO.bind ?_ (fun _ => ?_)
    · intro y0 y1 y2 y3 y4 y5 y6 y7
      unfold towlinelaw06_short.j2
      repeat' first
      | (with_reducible exact ih0 _ _ _ _ _)
      | (with_reducible exact ih1 _ _ _ _ _ _ _)
      | (with_reducible exact ih2 _ _ _ _ _ _ _ _)
      | (with_reducible exact ih3 _ _ _ _ _ _ _ _)
      | (with_reducible exact LeO.refl _)
      | (with_reducible exact LeO.none _)
      | (with_reducible refine LeO.ite ?_ ?_)
      | (with_reducible refine LeO.bind ?_ (fun _ => ?_))
      | exact ih0 _ _ _ _ _
      | exact ih1 _ _ _ _ _ _ _
      | exact ih2 _ _ _ _ _ _ _ _
      | exact ih3 _ _ _ _ _ _ _ _
      | exact LeO.none _
      | refine LeO.ite ?_ ?_
      | refine LeO.bind ?_ (fun _ => ?_)
    · intro y0 y1 y2 y3 y4 y5 y6 y7
      unfold towlinelaw06_short.l2
      repeat' first
      | (with_reducible exact ih0 _ _ _ _ _)
      | (with_reducible exact ih1 _ _ _ _ _ _ _)
      | (with_reducible exact ih2 _ _ _ _ _ _ _ _)
      | (with_reducible exact ih3 _ _ _ _ _ _ _ _)
      | (with_reducible exact LeO.refl _)
      | (with_reducible exact LeO.none _)
      | (with_reducible refine LeO.ite ?_ ?_)
      | (with_reducible refine LeO.bind ?_ (fun _ => ?_))
      | exact ih0 _ _ _ _ _
      | exact ih1 _ _ _ _ _ _ _
      | exact ih2 _ _ _ _ _ _ _ _
      | exact ih3 _ _ _ _ _ _ _ _
      | exact LeO.none _
      | refine LeO.ite ?_ ?_
      | refine LeO.bind ?_ (fun _ => ?_)
theorem towlinelaw06_short.mono : ∀ a0 k, LeO (towlinelaw06_short.f k a0) (towlinelaw06_short.f (k + 1) a0) := by
  intro a0 k
  obtain ⟨ih0, ih1, ih2, ih3⟩ := towlinelaw06_short.mono_l k
  unfold towlinelaw06_short.f
  repeat' first
      | (with_reducible exact ih0 _ _ _ _ _)
      | (with_reducible exact ih1 _ _ _ _ _ _ _)
      | (with_reducible exact ih2 _ _ _ _ _ _ _ _)
      | (with_reducible exact ih3 _ _ _ _ _ _ _ _)
      | (with_reducible exact LeO.refl _)
      | (with_reducible exact LeO.none _)
      | (with_reducible refine LeO.ite ?_ ?_)
      | (with_reducible refine LeO.bind ?_ (fun _ => ?_))
      | exact ih0 _ _ _ _ _
      | exact ih1 _ _ _ _ _ _ _
      | exact ih2 _ _ _ _ _ _ _ _
      | exact ih3 _ _ _ _ _ _ _ _
      | exact LeO.none _
      | refine LeO.ite ?_ ?_
      | refine LeO.bind ?_ (fun _ => ?_)
set_option maxHeartbeats 8000000 in
set_option maxRecDepth 100000 in
theorem towlinelaw06_short.calls (k : Nat) (A0 : Option Addr) (c0 : Nat) (l0 : List (List (S79))) (r : Bool) (w : World) (hr0 : Kd.C (Kd.slice 79 k79) w A0 l0.length l0) (hc0 : l0.length ≤ c0) (h : towlinelaw06_short.f k l0 = some r) :
    Calls Try.prog 37 #[.slice A0 l0.length c0] w fun e w' => e = .returned (.bool r) ∧ Below w.heap.size w w' := by
  have HR0 := Aside0.mk hr0
  have HC0 := Aside0.mk hc0
  clear hr0 hc0
  have HB := Aside0.mk (Below.refl w.heap.size w)
  have H : (towlinelaw06_short.l0 k 0 0 l0 (l0.length : Int) 0) = some r := h
  clear h
  have H' := Aside0.mk H
  clear H
  go_enter Try.func37, Try.ntmps37
  go_wp2
  repeat (go_quiet (fail); try go_wp2)
  go_loopg [3, 4, 11] k (fun kq v3 v4 v11 w' => ∃ (x3_1 : Int) (x4_1 : Int) (x11_1 : Int), v3 = .int .i64 x3_1 ∧ v4 = .int .i64 x4_1 ∧ v11 = .int .i64 x11_1 ∧ Aside0 (towlinelaw06_short.l0 kq x3_1 x4_1 l0 (l0.length : Int) x11_1 = some r) ∧ Aside0 (kq ≤ k) ∧ Aside0 (Below w.heap.size w w'))
  case atStart => exact ⟨(0), (0), (0), (by first | rfl | (simp; done) | (simp [*]; done)), (by first | rfl | (simp; done) | (simp [*]; done)), (by first | rfl | (simp; done) | (simp [*]; done)), H', ⟨Nat.le_refl _⟩, ⟨by repeat (first | (with_reducible first | exact HB.out | apply below_alloc | apply pw_below_drewN | apply below_drew1) | exact HB.out)⟩⟩
  case round =>
    clear H'
    obtain ⟨x3_1, x4_1, x11_1, rfl, rfl, rfl, HA, HK1, HB⟩ := hrel
    cases gk with
    | zero => exact absurd HA.out (by simp [towlinelaw06_short.l0])
    | succ k1 =>
      have H := HA.out
      clear HA
      simp only [towlinelaw06_short.l0] at H
      by_cases c2 : x11_1 < (l0.length : Int)
      · rw [if_pos c2] at H
        have c2b0 : decide (x11_1 < (l0.length : Int)) = true := decide_eq_true c2
        clear c2
        by_cases c3 : 0 ≤ x11_1
        · rw [if_pos c3] at H
          have c3b0 : decide (0 ≤ x11_1) = true := decide_eq_true c3
          clear c3
          by_cases c4 : x11_1 < (l0.length : Int)
          · rw [if_pos c4] at H
            have c4b0 : decide (x11_1 < (l0.length : Int)) = true := decide_eq_true c4
            clear c4
            have H' := Aside0.mk H
            clear H
            have p221 : 0 ≤ (x11_1 : Int) := of_decide_eq_true (by first | (with_reducible assumption) | assumption)
            have q221 : x11_1 < (l0.length : Int) := of_decide_eq_true (by first | (with_reducible assumption) | assumption)
            obtain ⟨ad221, A221_0, c221_0, e221, hx221_0, hl221_0, hi221_0⟩ := at_L8 HR0.out x11_1 p221 q221
            cases e221
            replace hx221_0 := (HB.out.cell (World.block_lt_of_cell? w _ hx221_0)).trans hx221_0
            have HR221_0 := Aside0.mk hi221_0
            have HC221_0 := Aside0.mk hl221_0
            clear hi221_0 hl221_0
            replace p221 := eq_true p221
            replace q221 := eq_true q221
            go_wp2
            repeat (go_quiet (fail); try go_wp2)
            go_loopg [3, 4, 7] k1 (fun kq v3 v4 v7 w' => ∃ (x3_2 : Int) (x4_2 : Int) (x7_2 : Int), v3 = .int .i64 x3_2 ∧ v4 = .int .i64 x4_2 ∧ v7 = .int .i64 x7_2 ∧ Aside0 (towlinelaw06_short.l1 kq x3_2 x4_2 (rd_L8 l0 x11_1) x7_2 l0 (l0.length : Int) x11_1 = some r) ∧ Aside0 (kq ≤ k1) ∧ Aside0 (Below w.heap.size w w'))
            case atStart => exact ⟨(x3_1), (x4_1), (0), (by first | rfl | (simp; done) | (simp [*]; done)), (by first | rfl | (simp; done) | (simp [*]; done)), (by first | rfl | (simp; done) | (simp [*]; done)), H', ⟨Nat.le_refl _⟩, ⟨by repeat (first | (with_reducible first | exact HB.out | apply below_alloc | apply pw_below_drewN | apply below_drew1) | exact HB.out)⟩⟩
            case round =>
              clear H'
              try clear c2
              try clear c2b0
              try clear p2
              try clear q2
              try clear hx2
              try clear c3
              try clear c3b0
              try clear c4
              try clear c4b0
              try clear hx221_0
              try clear p221
              try clear q221
              obtain ⟨x3_2, x4_2, x7_2, rfl, rfl, rfl, HA, HK2, HB⟩ := hrel
              cases gk with
              | zero => exact absurd HA.out (by simp [towlinelaw06_short.l1])
              | succ k2 =>
                have H := HA.out
                clear HA
                simp only [towlinelaw06_short.l1] at H
                have HC5 := Aside0.mk H
                clear H
                go_upto_region 6 with (fail)
                repeat (go_quiet (fail); go_upto_region 6 with (fail))
                go_cut [26] (fun v26 wc => ∃ (kq : Nat) (x26_4 : Bool), v26 = .bool x26_4 ∧ Aside0 (towlinelaw06_short.j2 kq x3_2 x4_2 (rd_L8 l0 x11_1) x7_2 l0 (l0.length : Int) x11_1 x26_4 = some r) ∧ Aside0 (kq ≤ k2) ∧ Aside0 (Below w.heap.size w wc))
                case first =>
                  have H := HC5.out
                  clear HC5
                  by_cases c6 : x7_2 < ((rd_L8 l0 x11_1).length : Int)
                  · rw [if_pos c6] at H
                    have c6b0 : decide (x7_2 < ((rd_L8 l0 x11_1).length : Int)) = true := decide_eq_true c6
                    clear c6
                    (first | rw [c6b0] | (simp only [i64_w, i32_w]; rw [c6b0]) | skip)
                    by_cases c7 : x4_2 ≤ 60
                    · rw [if_pos c7] at H
                      have c7b0 : decide (x4_2 ≤ 60) = true := decide_eq_true c7
                      clear c7
                      have H' := Aside0.mk H
                      clear H
                      go_wp2
                      repeat (go_quiet (fail); try go_wp2)
                      go_meet
                      case rel => exact ⟨_, (decide (x3_2 ≤ 16384)), (by first | rfl | (simp; done) | (simp [*]; done)), H', ⟨by have := HK1.out; have := HK2.out; first | omega | exact Nat.le_refl _⟩, ⟨by repeat (first | (with_reducible first | exact HB.out | apply below_alloc | apply pw_below_drewN | apply below_drew1) | exact HB.out)⟩⟩
                    · rw [if_neg c7] at H
                      have c7b0 : decide (x4_2 ≤ 60) = false := decide_eq_false c7
                      clear c7
                      have H' := Aside0.mk H
                      clear H
                      go_wp2
                      repeat (go_quiet (fail); try go_wp2)
                      go_meet
                      case rel => exact ⟨_, (false), (by first | rfl | (simp; done) | (simp [*]; done)), H', ⟨by have := HK1.out; have := HK2.out; first | omega | exact Nat.le_refl _⟩, ⟨by repeat (first | (with_reducible first | exact HB.out | apply below_alloc | apply pw_below_drewN | apply below_drew1) | exact HB.out)⟩⟩
                  · rw [if_neg c6] at H
                    have c6b0 : decide (x7_2 < ((rd_L8 l0 x11_1).length : Int)) = false := decide_eq_false c6
                    clear c6
                    (first | rw [c6b0] | (simp only [i64_w, i32_w]; rw [c6b0]) | skip)
                    have H' := Aside0.mk H
                    clear H
                    go_wp2
                    repeat (go_quiet (fail); try go_wp2)
                    go_meet
                    case rel => exact ⟨_, (false), (by first | rfl | (simp; done) | (simp [*]; done)), H', ⟨by have := HK1.out; have := HK2.out; first | omega | exact Nat.le_refl _⟩, ⟨by repeat (first | (with_reducible first | exact HB.out | apply below_alloc | apply pw_below_drewN | apply below_drew1) | exact HB.out)⟩⟩
                case rest =>
                  clear HC5
                  try clear c2
                  try clear c2b0
                  try clear p2
                  try clear q2
                  try clear hx2
                  try clear c3
                  try clear c3b0
                  try clear c4
                  try clear c4b0
                  try clear c6
                  try clear c6b0
                  try clear c7
                  try clear c7b0
                  try clear hx221_0
                  try clear p2
                  try clear p221
                  try clear q2
                  try clear q221
                  obtain ⟨kq, x26_4, rfl, HA, HJ4, HB⟩ := hcut
                  cases kq with
                  | zero => exact absurd HA.out (by simp [towlinelaw06_short.j2])
                  | succ kj4 =>
                    have H := HA.out
                    clear HA
                    simp only [towlinelaw06_short.j2] at H
                    by_cases c8 : x26_4 = true
                    · subst c8
                      have H1 : (if 0 ≤ x7_2 then (if x7_2 < ((rd_L8 l0 x11_1).length : Int) then (towlinelaw06_short.l2 kj4 (wrap64 (x3_2 + ((mn (((rd_T79 (rd_L8 l0 x11_1) x7_2).f2).length : Int) 16385) + (mn (((rd_T79 (rd_L8 l0 x11_1) x7_2).f4).length : Int) 16385)))) (wrap64 (x4_2 + 1)) (rd_L8 l0 x11_1) x7_2 0 l0 (l0.length : Int) x11_1) else (none)) else (none)) = some r := by rw [if_pos rfl] at H; exact H
                      clear H
                      have H := H1
                      clear H1
                      by_cases c9 : 0 ≤ x7_2
                      · rw [if_pos c9] at H
                        have c9b0 : decide (0 ≤ x7_2) = true := decide_eq_true c9
                        clear c9
                        by_cases c10 : x7_2 < ((rd_L8 l0 x11_1).length : Int)
                        · rw [if_pos c10] at H
                          have c10b0 : decide (x7_2 < ((rd_L8 l0 x11_1).length : Int)) = true := decide_eq_true c10
                          clear c10
                          obtain ⟨ji11, hji11⟩ : ∃ j_ : Int, (mn (((rd_T79 (rd_L8 l0 x11_1) x7_2).f2).length : Int) 16385) = j_ := ⟨_, rfl⟩
                          replace H : (towlinelaw06_short.l2 kj4 (wrap64 (x3_2 + ((ji11) + (mn (((rd_T79 (rd_L8 l0 x11_1) x7_2).f4).length : Int) 16385)))) (wrap64 (x4_2 + 1)) (rd_L8 l0 x11_1) x7_2 0 l0 (l0.length : Int) x11_1) = some r := by first | (rw [hji11] at H; exact H) | (simp only [hji11] at H ⊢; exact H)
                          have hji11_ : (if 16385 < (((rd_T79 (rd_L8 l0 x11_1) x7_2).f2).length : Int) then 16385 else (((rd_T79 (rd_L8 l0 x11_1) x7_2).f2).length : Int)) = ji11 := hji11
                          obtain ⟨ji12, hji12⟩ : ∃ j_ : Int, (mn (((rd_T79 (rd_L8 l0 x11_1) x7_2).f4).length : Int) 16385) = j_ := ⟨_, rfl⟩
                          replace H : (towlinelaw06_short.l2 kj4 (wrap64 (x3_2 + ((ji11) + (ji12)))) (wrap64 (x4_2 + 1)) (rd_L8 l0 x11_1) x7_2 0 l0 (l0.length : Int) x11_1) = some r := by first | (rw [hji12] at H; exact H) | (simp only [hji12] at H ⊢; exact H)
                          have hji12_ : (if 16385 < (((rd_T79 (rd_L8 l0 x11_1) x7_2).f4).length : Int) then 16385 else (((rd_T79 (rd_L8 l0 x11_1) x7_2).f4).length : Int)) = ji12 := hji12
                          have H' := Aside0.mk H
                          clear H
                          have p222 : 0 ≤ (x7_2 : Int) := of_decide_eq_true (by first | (with_reducible assumption) | assumption)
                          have q222 : x7_2 < ((rd_L8 l0 x11_1).length : Int) := of_decide_eq_true (by first | (with_reducible assumption) | assumption)
                          obtain ⟨ad222, A222_2, c222_2, A222_3, c222_3, A222_4, c222_4, e222, hx222_0, hx222_1, hx222_2, hx222_3, hx222_4, hl222_2, hi222_2, hl222_3, hi222_3, hl222_4, hi222_4⟩ := at_T79 HR221_0.out x7_2 p222 q222
                          cases e222
                          replace hx222_0 := (HB.out.cell (World.block_lt_of_cell? w _ hx222_0)).trans hx222_0
                          replace hx222_1 := (HB.out.cell (World.block_lt_of_cell? w _ hx222_1)).trans hx222_1
                          replace hx222_2 := (HB.out.cell (World.block_lt_of_cell? w _ hx222_2)).trans hx222_2
                          replace hx222_3 := (HB.out.cell (World.block_lt_of_cell? w _ hx222_3)).trans hx222_3
                          replace hx222_4 := (HB.out.cell (World.block_lt_of_cell? w _ hx222_4)).trans hx222_4
                          have HR222_2 := Aside0.mk hi222_2
                          have HC222_2 := Aside0.mk hl222_2
                          clear hi222_2 hl222_2
                          have HR222_3 := Aside0.mk hi222_3
                          have HC222_3 := Aside0.mk hl222_3
                          clear hi222_3 hl222_3
                          have HR222_4 := Aside0.mk hi222_4
                          have HC222_4 := Aside0.mk hl222_4
                          clear hi222_4 hl222_4
                          replace p222 := eq_true p222
                          replace q222 := eq_true q222
                          have p223 : 0 ≤ (x7_2 : Int) := of_decide_eq_true (by first | (with_reducible assumption) | assumption)
                          have q223 : x7_2 < ((rd_L8 l0 x11_1).length : Int) := of_decide_eq_true (by first | (with_reducible assumption) | assumption)
                          obtain ⟨ad223, A223_2, c223_2, A223_3, c223_3, A223_4, c223_4, e223, hx223_0, hx223_1, hx223_2, hx223_3, hx223_4, hl223_2, hi223_2, hl223_3, hi223_3, hl223_4, hi223_4⟩ := at_T79 HR221_0.out x7_2 p223 q223
                          obtain rfl : ad222 = ad223 := (by injection e223)
                          replace hx223_0 := (HB.out.cell (World.block_lt_of_cell? w _ hx223_0)).trans hx223_0
                          replace hx223_1 := (HB.out.cell (World.block_lt_of_cell? w _ hx223_1)).trans hx223_1
                          replace hx223_2 := (HB.out.cell (World.block_lt_of_cell? w _ hx223_2)).trans hx223_2
                          replace hx223_3 := (HB.out.cell (World.block_lt_of_cell? w _ hx223_3)).trans hx223_3
                          replace hx223_4 := (HB.out.cell (World.block_lt_of_cell? w _ hx223_4)).trans hx223_4
                          have HR223_2 := Aside0.mk hi223_2
                          have HC223_2 := Aside0.mk hl223_2
                          clear hi223_2 hl223_2
                          have HR223_3 := Aside0.mk hi223_3
                          have HC223_3 := Aside0.mk hl223_3
                          clear hi223_3 hl223_3
                          have HR223_4 := Aside0.mk hi223_4
                          have HC223_4 := Aside0.mk hl223_4
                          clear hi223_4 hl223_4
                          replace p223 := eq_true p223
                          replace q223 := eq_true q223
                          have ea_ := Option.some.inj (hx222_2.symm.trans hx223_2)
                          injection ea_ with ea_ en_ ec_
                          subst ea_
                          subst ec_
                          clear en_
                          have ea_ := Option.some.inj (hx222_3.symm.trans hx223_3)
                          injection ea_ with ea_ en_ ec_
                          subst ea_
                          subst ec_
                          clear en_
                          have ea_ := Option.some.inj (hx222_4.symm.trans hx223_4)
                          injection ea_ with ea_ en_ ec_
                          subst ea_
                          subst ec_
                          clear en_
                          go_wp2
                          repeat (go_quiet (fail); try go_wp2)
                          go_loopg [3, 8] kj4 (fun kq v3 v8 w' => ∃ (x3_4 : Int) (x8_4 : Int), v3 = .int .i64 x3_4 ∧ v8 = .int .i64 x8_4 ∧ Aside0 (towlinelaw06_short.l2 kq x3_4 (wrap64 (x4_2 + 1)) (rd_L8 l0 x11_1) x7_2 x8_4 l0 (l0.length : Int) x11_1 = some r) ∧ Aside0 (kq ≤ kj4) ∧ Aside0 (Below w.heap.size w w'))
                          case atStart => exact ⟨(wrap64 (x3_2 + ((ji11) + (ji12)))), (0), (by first | rfl | (simp; done) | (simp only [← hji11, ← hji12] <;> (first | rfl | simp)) | (simp [*]; done)), (by first | rfl | (simp; done) | (simp [*]; done)), H', ⟨Nat.le_refl _⟩, ⟨by repeat (first | (with_reducible first | exact HB.out | apply below_alloc | apply pw_below_drewN | apply below_drew1) | exact HB.out)⟩⟩
                          case round =>
                            clear H'
                            try clear c1
                            try clear c2
                            try clear c2b0
                            try clear p2
                            try clear q2
                            try clear hx2
                            try clear c3
                            try clear c3b0
                            try clear c4
                            try clear c4b0
                            try clear c6
                            try clear c6b0
                            try clear p6
                            try clear c7
                            try clear c7b0
                            try clear c8
                            try clear c9
                            try clear c9b0
                            try clear c10
                            try clear c10b0
                            try clear hx221_0
                            try clear hx222_0
                            try clear hx222_1
                            try clear hx222_2
                            try clear hx222_3
                            try clear hx222_4
                            try clear hx223_0
                            try clear hx223_1
                            try clear hx223_2
                            try clear hx223_3
                            try clear hx223_4
                            try clear p2
                            try clear p221
                            try clear p222
                            try clear p223
                            try clear q2
                            try clear q221
                            try clear q222
                            try clear q223
                            obtain ⟨x3_4, x8_4, rfl, rfl, HA, HK4, HB⟩ := hrel
                            cases gk with
                            | zero => exact absurd HA.out (by simp [towlinelaw06_short.l2])
                            | succ k4 =>
                              have H := HA.out
                              clear HA
                              simp only [towlinelaw06_short.l2] at H
                              by_cases c13 : 0 ≤ x7_2
                              · rw [if_pos c13] at H
                                have c13b0 : decide (0 ≤ x7_2) = true := decide_eq_true c13
                                clear c13
                                by_cases c14 : x7_2 < ((rd_L8 l0 x11_1).length : Int)
                                · rw [if_pos c14] at H
                                  have c14b0 : decide (x7_2 < ((rd_L8 l0 x11_1).length : Int)) = true := decide_eq_true c14
                                  clear c14
                                  by_cases c15 : x8_4 < (((rd_T79 (rd_L8 l0 x11_1) x7_2).f3).length : Int)
                                  · rw [if_pos c15] at H
                                    have c15b0 : decide (x8_4 < (((rd_T79 (rd_L8 l0 x11_1) x7_2).f3).length : Int)) = true := decide_eq_true c15
                                    clear c15
                                    by_cases c16 : x3_4 ≤ 16384
                                    · rw [if_pos c16] at H
                                      have c16b0 : decide (x3_4 ≤ 16384) = true := decide_eq_true c16
                                      clear c16
                                      by_cases c17 : 0 ≤ x8_4
                                      · rw [if_pos c17] at H
                                        have c17b0 : decide (0 ≤ x8_4) = true := decide_eq_true c17
                                        clear c17
                                        obtain ⟨ji18, hji18⟩ : ∃ j_ : Int, (mn ((rd_L1 ((rd_T79 (rd_L8 l0 x11_1) x7_2).f3) x8_4).length : Int) 16385) = j_ := ⟨_, rfl⟩
                                        replace H : (towlinelaw06_short.l2 k4 (wrap64 (x3_4 + (4 + (ji18)))) (wrap64 (x4_2 + 1)) (rd_L8 l0 x11_1) x7_2 (wrap64 (x8_4 + 1)) l0 (l0.length : Int) x11_1) = some r := by first | (rw [hji18] at H; exact H) | (simp only [hji18] at H ⊢; exact H)
                                        have hji18_ : (if 16385 < ((rd_L1 ((rd_T79 (rd_L8 l0 x11_1) x7_2).f3) x8_4).length : Int) then 16385 else ((rd_L1 ((rd_T79 (rd_L8 l0 x11_1) x7_2).f3) x8_4).length : Int)) = ji18 := hji18
                                        have H' := Aside0.mk H
                                        clear H
                                        have p224 : 0 ≤ (x7_2 : Int) := of_decide_eq_true (by first | (with_reducible assumption) | assumption)
                                        have q224 : x7_2 < ((rd_L8 l0 x11_1).length : Int) := of_decide_eq_true (by first | (with_reducible assumption) | assumption)
                                        obtain ⟨ad224, A224_2, c224_2, A224_3, c224_3, A224_4, c224_4, e224, hx224_0, hx224_1, hx224_2, hx224_3, hx224_4, hl224_2, hi224_2, hl224_3, hi224_3, hl224_4, hi224_4⟩ := at_T79 HR221_0.out x7_2 p224 q224
                                        obtain rfl : ad222 = ad224 := (by injection e224)
                                        replace hx224_0 := (HB.out.cell (World.block_lt_of_cell? w _ hx224_0)).trans hx224_0
                                        replace hx224_1 := (HB.out.cell (World.block_lt_of_cell? w _ hx224_1)).trans hx224_1
                                        replace hx224_2 := (HB.out.cell (World.block_lt_of_cell? w _ hx224_2)).trans hx224_2
                                        replace hx224_3 := (HB.out.cell (World.block_lt_of_cell? w _ hx224_3)).trans hx224_3
                                        replace hx224_4 := (HB.out.cell (World.block_lt_of_cell? w _ hx224_4)).trans hx224_4
                                        have HR224_2 := Aside0.mk hi224_2
                                        have HC224_2 := Aside0.mk hl224_2
                                        clear hi224_2 hl224_2
                                        have HR224_3 := Aside0.mk hi224_3
                                        have HC224_3 := Aside0.mk hl224_3
                                        clear hi224_3 hl224_3
                                        have HR224_4 := Aside0.mk hi224_4
                                        have HC224_4 := Aside0.mk hl224_4
                                        clear hi224_4 hl224_4
                                        replace p224 := eq_true p224
                                        replace q224 := eq_true q224
                                        have p225 : 0 ≤ (x7_2 : Int) := of_decide_eq_true (by first | (with_reducible assumption) | assumption)
                                        have q225 : x7_2 < ((rd_L8 l0 x11_1).length : Int) := of_decide_eq_true (by first | (with_reducible assumption) | assumption)
                                        obtain ⟨ad225, A225_2, c225_2, A225_3, c225_3, A225_4, c225_4, e225, hx225_0, hx225_1, hx225_2, hx225_3, hx225_4, hl225_2, hi225_2, hl225_3, hi225_3, hl225_4, hi225_4⟩ := at_T79 HR221_0.out x7_2 p225 q225
                                        obtain rfl : ad222 = ad225 := (by injection e225)
                                        replace hx225_0 := (HB.out.cell (World.block_lt_of_cell? w _ hx225_0)).trans hx225_0
                                        replace hx225_1 := (HB.out.cell (World.block_lt_of_cell? w _ hx225_1)).trans hx225_1
                                        replace hx225_2 := (HB.out.cell (World.block_lt_of_cell? w _ hx225_2)).trans hx225_2
                                        replace hx225_3 := (HB.out.cell (World.block_lt_of_cell? w _ hx225_3)).trans hx225_3
                                        replace hx225_4 := (HB.out.cell (World.block_lt_of_cell? w _ hx225_4)).trans hx225_4
                                        have HR225_2 := Aside0.mk hi225_2
                                        have HC225_2 := Aside0.mk hl225_2
                                        clear hi225_2 hl225_2
                                        have HR225_3 := Aside0.mk hi225_3
                                        have HC225_3 := Aside0.mk hl225_3
                                        clear hi225_3 hl225_3
                                        have HR225_4 := Aside0.mk hi225_4
                                        have HC225_4 := Aside0.mk hl225_4
                                        clear hi225_4 hl225_4
                                        replace p225 := eq_true p225
                                        replace q225 := eq_true q225
                                        have ea_ := Option.some.inj (hx224_2.symm.trans hx225_2)
                                        injection ea_ with ea_ en_ ec_
                                        subst ea_
                                        subst ec_
                                        clear en_
                                        have ea_ := Option.some.inj (hx224_3.symm.trans hx225_3)
                                        injection ea_ with ea_ en_ ec_
                                        subst ea_
                                        subst ec_
                                        clear en_
                                        have ea_ := Option.some.inj (hx224_4.symm.trans hx225_4)
                                        injection ea_ with ea_ en_ ec_
                                        subst ea_
                                        subst ec_
                                        clear en_
                                        have p226 : 0 ≤ (x8_4 : Int) := of_decide_eq_true (by first | (with_reducible assumption) | assumption)
                                        have q226 : x8_4 < (((rd_T79 (rd_L8 l0 x11_1) x7_2).f3).length : Int) := of_decide_eq_true (by first | (with_reducible assumption) | assumption)
                                        obtain ⟨ad226, A226_0, c226_0, e226, hx226_0, hl226_0, hi226_0⟩ := at_L1 HR225_3.out x8_4 p226 q226
                                        cases e226
                                        replace hx226_0 := (HB.out.cell (World.block_lt_of_cell? w _ hx226_0)).trans hx226_0
                                        have HR226_0 := Aside0.mk hi226_0
                                        have HC226_0 := Aside0.mk hl226_0
                                        clear hi226_0 hl226_0
                                        replace p226 := eq_true p226
                                        replace q226 := eq_true q226
                                        go_wp2
                                        repeat (go_quiet (fail); try go_wp2)
                                        go_roundg k4
                                        case measure => have := HK1.out; have := HK2.out; have := HJ4.out; have := HK4.out; omega
                                        case rel => exact ⟨(wrap64 (x3_4 + (4 + (ji18)))), (wrap64 (x8_4 + 1)), (by first | rfl | (simp; done) | (simp only [← hji18] <;> (first | rfl | simp)) | (simp [*]; done)), (by first | rfl | (simp; done) | (simp [*]; done)), H', ⟨by have := HK1.out; have := HK2.out; have := HJ4.out; have := HK4.out; omega⟩, ⟨by repeat (first | (with_reducible first | exact HB.out | apply below_alloc | apply pw_below_drewN | apply below_drew1) | exact HB.out)⟩⟩
                                      · rw [if_neg c17] at H
                                        exact absurd H (by simp)
                                    · rw [if_neg c16] at H
                                      have c16b0 : decide (x3_4 ≤ 16384) = false := decide_eq_false c16
                                      clear c16
                                      have H' := Aside0.mk H
                                      clear H
                                      have p224 : 0 ≤ (x7_2 : Int) := of_decide_eq_true (by first | (with_reducible assumption) | assumption)
                                      have q224 : x7_2 < ((rd_L8 l0 x11_1).length : Int) := of_decide_eq_true (by first | (with_reducible assumption) | assumption)
                                      obtain ⟨ad224, A224_2, c224_2, A224_3, c224_3, A224_4, c224_4, e224, hx224_0, hx224_1, hx224_2, hx224_3, hx224_4, hl224_2, hi224_2, hl224_3, hi224_3, hl224_4, hi224_4⟩ := at_T79 HR221_0.out x7_2 p224 q224
                                      obtain rfl : ad222 = ad224 := (by injection e224)
                                      replace hx224_0 := (HB.out.cell (World.block_lt_of_cell? w _ hx224_0)).trans hx224_0
                                      replace hx224_1 := (HB.out.cell (World.block_lt_of_cell? w _ hx224_1)).trans hx224_1
                                      replace hx224_2 := (HB.out.cell (World.block_lt_of_cell? w _ hx224_2)).trans hx224_2
                                      replace hx224_3 := (HB.out.cell (World.block_lt_of_cell? w _ hx224_3)).trans hx224_3
                                      replace hx224_4 := (HB.out.cell (World.block_lt_of_cell? w _ hx224_4)).trans hx224_4
                                      have HR224_2 := Aside0.mk hi224_2
                                      have HC224_2 := Aside0.mk hl224_2
                                      clear hi224_2 hl224_2
                                      have HR224_3 := Aside0.mk hi224_3
                                      have HC224_3 := Aside0.mk hl224_3
                                      clear hi224_3 hl224_3
                                      have HR224_4 := Aside0.mk hi224_4
                                      have HC224_4 := Aside0.mk hl224_4
                                      clear hi224_4 hl224_4
                                      replace p224 := eq_true p224
                                      replace q224 := eq_true q224
                                      go_wp2
                                      repeat (go_quiet (fail); try go_wp2)
                                      go_roundg k4
                                      case measure => have := HK1.out; have := HK2.out; have := HJ4.out; have := HK4.out; omega
                                      case rel => exact ⟨(x3_4), ((wrap64 (x4_2 + 1))), (wrap64 (x7_2 + 1)), (by first | rfl | (simp; done) | (simp [*]; done)), (by first | rfl | (simp; done) | (simp [*]; done)), (by first | rfl | (simp; done) | (simp [*]; done)), H', ⟨by have := HK1.out; have := HK2.out; have := HJ4.out; have := HK4.out; omega⟩, ⟨by repeat (first | (with_reducible first | exact HB.out | apply below_alloc | apply pw_below_drewN | apply below_drew1) | exact HB.out)⟩⟩
                                  · rw [if_neg c15] at H
                                    have c15b0 : decide (x8_4 < (((rd_T79 (rd_L8 l0 x11_1) x7_2).f3).length : Int)) = false := decide_eq_false c15
                                    clear c15
                                    have H' := Aside0.mk H
                                    clear H
                                    have p224 : 0 ≤ (x7_2 : Int) := of_decide_eq_true (by first | (with_reducible assumption) | assumption)
                                    have q224 : x7_2 < ((rd_L8 l0 x11_1).length : Int) := of_decide_eq_true (by first | (with_reducible assumption) | assumption)
                                    obtain ⟨ad224, A224_2, c224_2, A224_3, c224_3, A224_4, c224_4, e224, hx224_0, hx224_1, hx224_2, hx224_3, hx224_4, hl224_2, hi224_2, hl224_3, hi224_3, hl224_4, hi224_4⟩ := at_T79 HR221_0.out x7_2 p224 q224
                                    obtain rfl : ad222 = ad224 := (by injection e224)
                                    replace hx224_0 := (HB.out.cell (World.block_lt_of_cell? w _ hx224_0)).trans hx224_0
                                    replace hx224_1 := (HB.out.cell (World.block_lt_of_cell? w _ hx224_1)).trans hx224_1
                                    replace hx224_2 := (HB.out.cell (World.block_lt_of_cell? w _ hx224_2)).trans hx224_2
                                    replace hx224_3 := (HB.out.cell (World.block_lt_of_cell? w _ hx224_3)).trans hx224_3
                                    replace hx224_4 := (HB.out.cell (World.block_lt_of_cell? w _ hx224_4)).trans hx224_4
                                    have HR224_2 := Aside0.mk hi224_2
                                    have HC224_2 := Aside0.mk hl224_2
                                    clear hi224_2 hl224_2
                                    have HR224_3 := Aside0.mk hi224_3
                                    have HC224_3 := Aside0.mk hl224_3
                                    clear hi224_3 hl224_3
                                    have HR224_4 := Aside0.mk hi224_4
                                    have HC224_4 := Aside0.mk hl224_4
                                    clear hi224_4 hl224_4
                                    replace p224 := eq_true p224
                                    replace q224 := eq_true q224
                                    go_wp2
                                    repeat (go_quiet (fail); try go_wp2)
                                    go_roundg k4
                                    case measure => have := HK1.out; have := HK2.out; have := HJ4.out; have := HK4.out; omega
                                    case rel => exact ⟨(x3_4), ((wrap64 (x4_2 + 1))), (wrap64 (x7_2 + 1)), (by first | rfl | (simp; done) | (simp [*]; done)), (by first | rfl | (simp; done) | (simp [*]; done)), (by first | rfl | (simp; done) | (simp [*]; done)), H', ⟨by have := HK1.out; have := HK2.out; have := HJ4.out; have := HK4.out; omega⟩, ⟨by repeat (first | (with_reducible first | exact HB.out | apply below_alloc | apply pw_below_drewN | apply below_drew1) | exact HB.out)⟩⟩
                                · rw [if_neg c14] at H
                                  exact absurd H (by simp)
                              · rw [if_neg c13] at H
                                exact absurd H (by simp)
                        · rw [if_neg c10] at H
                          exact absurd H (by simp)
                      · rw [if_neg c9] at H
                        exact absurd H (by simp)
                    · replace c8 := Bool.eq_false_iff.mpr c8
                      subst c8
                      have H1 : (towlinelaw06_short.l0 kj4 x3_2 x4_2 l0 (l0.length : Int) (wrap64 (x11_1 + 1))) = some r := by rw [if_neg (show ¬ (false = true) by decide)] at H; exact H
                      clear H
                      have H := H1
                      clear H1
                      have H' := Aside0.mk H
                      clear H
                      go_wp2
                      repeat (go_quiet (fail); try go_wp2)
                      go_roundg kj4
                      case measure => have := HK1.out; have := HK2.out; have := HJ4.out; omega
                      case rel => exact ⟨(x3_2), (x4_2), (wrap64 (x11_1 + 1)), (by first | rfl | (simp; done) | (simp [*]; done)), (by first | rfl | (simp; done) | (simp [*]; done)), (by first | rfl | (simp; done) | (simp [*]; done)), H', ⟨by have := HK1.out; have := HK2.out; have := HJ4.out; omega⟩, ⟨by repeat (first | (with_reducible first | exact HB.out | apply below_alloc | apply pw_below_drewN | apply below_drew1) | exact HB.out)⟩⟩
          · rw [if_neg c4] at H
            exact absurd H (by simp)
        · rw [if_neg c3] at H
          exact absurd H (by simp)
      · rw [if_neg c2] at H
        have c2b0 : decide (x11_1 < (l0.length : Int)) = false := decide_eq_false c2
        clear c2
        by_cases c19 : x4_1 ≤ 60
        · rw [if_pos c19] at H
          have c19b0 : decide (x4_1 ≤ 60) = true := decide_eq_true c19
          clear c19
          obtain rfl := Option.some.inj H
          go_wp2
          repeat (go_quiet (fail); try go_wp2)
          go_ret
          exact ⟨by first | rfl | (simp [errW_none, errW_some] <;> rfl) | (simp [*, errW_none, errW_some] <;> rfl), by repeat (first | (with_reducible first | exact HB.out | apply below_alloc | apply pw_below_drewN | apply below_drew1) | exact HB.out)⟩
        · rw [if_neg c19] at H
          have c19b0 : decide (x4_1 ≤ 60) = false := decide_eq_false c19
          clear c19
          obtain rfl := Option.some.inj H
          go_wp2
          repeat (go_quiet (fail); try go_wp2)
          go_ret
          exact ⟨by first | rfl | (simp [errW_none, errW_some] <;> rfl) | (simp [*, errW_none, errW_some] <;> rfl), by repeat (first | (with_reducible first | exact HB.out | apply below_alloc | apply pw_below_drewN | apply below_drew1) | exact HB.out)⟩
def slices_Clone_int_int.f (l0 : List Int) : Option (List Int) := if l0.length < 17592186044416 then some l0 else none
set_option maxHeartbeats 8000000 in
set_option maxRecDepth 100000 in
theorem slices_Clone_int_int.calls (A0 : Option Addr) (c0 : Nat) (l0 : List Int) (r : List Int) (w : World) (hr0 : Kd.C (Kd.int .i64) w A0 l0.length l0) (hc0 : l0.length ≤ c0) (h : slices_Clone_int_int.f l0 = some r) :
    Calls Try.prog 15 #[.slice A0 l0.length c0] w fun e w' => ∃ v0_ : Value, e = .returned (v0_) ∧ Kd.R (Kd.int .i64) 3 w' w.heap.size (fun _ => True) v0_ r ∧ Below w.heap.size w w' := by
  unfold slices_Clone_int_int.f at h
  by_cases c1 : l0.length < 17592186044416
  · rw [if_pos c1] at h
    obtain rfl := Option.some.inj h
    clear h
    have LM := Aside0.mk c1
    clear c1
    have HR0 := Aside0.mk hr0
    have HC0 := Aside0.mk hc0
    clear hr0 hc0
    have HB := Aside0.mk (Below.refl w.heap.size w)
    cases A0 with
    | none =>
      have hn : l0 = [] := by
        cases l0 with
        | nil => rfl
        | cons a_ b_ => obtain ⟨ad, c, e, _⟩ := Kd.C_get HR0.out (0 : Int) 0 (by decide) (by simp); cases e
      subst hn
      have heq : ∀ W : World, (binOp .eql 33 (.slice none ([] : List Int).length c0) (.slice none 0 0)).run Try.prog W = .ok (.bool true) W := fun W => Lib.run_eql_slice_nil W 33 3 none _ _ _ _ Try.underlying33
      have heq2 : ∀ W : World, (binOp .eql 33 (.slice none 0 c0) (.slice none 0 0)).run Try.prog W = .ok (.bool true) W := fun W => Lib.run_eql_slice_nil W 33 3 none _ _ _ _ Try.underlying33
      go_enter Try.func15, Try.ntmps15
      go_wp2
      go_ret
      exact ⟨_, rfl, Kd.R_nil _ _ _ _ _, HB.out⟩
    | some ad =>
      have heq : ∀ W : World, (binOp .eql 33 (.slice (some ad) l0.length c0) (.slice none 0 0)).run Try.prog W = .ok (.bool false) W := fun W => Lib.run_eql_slice_nil W 33 3 (some ad) _ _ _ _ Try.underlying33
      obtain ⟨y1, Ny1⟩ : ∃ y_ : List Int, Aside0 (y_ = ([] : List Int)) := ⟨_, ⟨rfl⟩⟩
      have LM2 := Aside0.mk (show y1.length + l0.length < 17592186044416 by have := LM.out; rw [Ny1.out]; simpa using this)
      have Ny2 := Aside0.mk (show l0 = y1 ++ l0 by rw [Ny1.out]; rfl)
      go_enter Try.func15, Try.ntmps15
      go_wp2_with (first | ((with_reducible refine gate_dst (N := 5) rfl ?_); refine Kd.R_lit (Kd.int .i64) _ 3 ?hg (N := 5) ?hd (xs := ([] : List Int)) (inner := []) (ok := fun _ => True) (okp := fun _ => True) ?hr ?hp (fun _ hk => hk) trivial (Below.refl _ _) (Nat.le_refl _) (by simp) ?_; (case hd => rfl); (case hg => rfl); (case hr => first | (go_simp; done) | (go_simp; rfl)); (case hp => exact (Reps.none _ _)); intro va w4 ho5 hb hg_ hnew_; clear hg_ hnew_; (first | rw [← Ny1.out] at ho5 | (simp only [Int.reduceToNat] at ho5; rw [← Ny1.out] at ho5)); have n0_ := Aside0.mk (Kd.R_lower ho5 (below_size (by repeat (first | (with_reducible first | exact HB.out | apply below_alloc | apply pw_below_drewN | apply below_drew1) | exact HB.out)))); have n1_ := Aside0.mk (below_step (by repeat (first | (with_reducible first | exact HB.out | apply below_alloc | apply pw_below_drewN | apply below_drew1) | exact HB.out)) hb); clear HB; have HOa := n0_; have HB := n1_; clear n0_ n1_; clear hb ho5) | ((with_reducible refine gate_builtin (b := .append) (xs := #[.tmp 5, .tmp 6]) rfl ?_); at_builtin; refine Kd.R_append_rows (Kd.int .i64) (w0 := w) w.heap.size rfl (.tmp 5) (.tmp 6) 33 3 (.int .i64 0) 8 rfl Try.underlying33 info3 rfl (by decide) (by omega) va y1 l0 _ _ _ (fun _ => True) (fun _ => False) rfl rfl ?aO ?aR (fun _ _ h => h) (fun _ h => h.elim) ?aF ?aB ?aS ?aL ?_; (case aR => repeat (first | exact (Kd.C_below HR0.out HB.out) | (with_reducible refine Kd.C_alloc ?_ _) | (with_reducible refine Kd.C_drewN ?_ _) | (with_reducible refine Kd.C_drew ?_))); (case aB => exact (by repeat (first | (with_reducible first | exact HB.out | apply below_alloc | apply pw_below_drewN | apply below_drew1) | exact HB.out))); (case aF => exact (fun _ _ => trivial)); (case aO => exact (by (with_reducible repeat (first | apply Kd.R_alloc | apply Kd.R_drewN | apply Kd.R_drew)); exact HOa.out)); (case aS => exact (below_size (by repeat (first | (with_reducible first | exact HB.out | apply below_alloc | apply pw_below_drewN | apply below_drew1) | exact HB.out)))); (case aL => have := LM2.out; omega); intro vb w6 ho hb hg hat; rw [← Ny2.out] at ho; have n0_ := Aside0.mk (hb); have n1_ := Aside0.mk (ho); clear HB; clear HOa; have HB := n0_; have HOa := n1_; clear n0_ n1_; clear ho hb hg hat))
      go_ret
      exact ⟨_, rfl, by (with_reducible repeat (first | apply Kd.R_alloc | apply Kd.R_drewN | apply Kd.R_drew)); exact HOa.out, by repeat (first | (with_reducible first | exact HB.out | apply below_alloc | apply pw_below_drewN | apply below_drew1) | exact HB.out)⟩
  · rw [if_neg c1] at h; cases h
end Go.Proofs.Ytehjbhnlbjbhfaa.PTapePlays
-- PTapePlaysx
namespace Go.Proofs.Ytehjbhnlbjbhfaa.PTapePlays
open Go.RowKit Go.Proofs.YtehjbhnlbjbhfaaW.PrintWords Go.Proofs.YtehjbhnlbjbhfaaW.PrintLast Go.Proofs.YtehjbhnlbjbhfaaW.PrintMore
set_option linter.unusedVariables false
set_option linter.unusedSimpArgs false
end Go.Proofs.Ytehjbhnlbjbhfaa.PTapePlays
-- DkD
namespace Go.Proofs.Ytehjbhnlbjbhfaa.Dk
open Go Go.RowKit Go.Proofs.YtehjbhnlbjbhfaaW.PrintWords Go.Proofs.YtehjbhnlbjbhfaaW.PrintLast Go.Proofs.YtehjbhnlbjbhfaaW.PrintMore
open Go.Proofs.Ytehjbhnlbjbhfaa.PDiskBegins
set_option linter.unusedVariables false
def afterB (f : Fl) (k : Int) : List Int := if 0 ≤ k then (if f.cl = true then f.seen.take k.toNat else f.seen.take (f.lasts.length + k.toNat)) else f.lasts
theorem after_eq (f : Fl) (k : Int) : afterP f k = ⟨afterB f k, afterB f k, false⟩ := by
  unfold afterP afterB
  by_cases c : 0 ≤ k
  · rw [if_pos c, if_pos c]; split <;> rfl
  · rw [if_neg c, if_neg c]
set_option maxHeartbeats 8000000 in
set_option maxRecDepth 100000 in
theorem after_calls (A0 : Option Addr) (c0 : Nat) (A1 : Option Addr) (c1 : Nat) (f : Fl) (k : Int) (w : World) (hk : -9223372036854775808 ≤ k ∧ k ≤ 9223372036854775807)
    (h0 : (Kd.int .u8).C w A0 f.seen.length f.seen) (hc0 : f.seen.length ≤ c0) (h1 : (Kd.int .u8).C w A1 f.lasts.length f.lasts) (hc1 : f.lasts.length ≤ c1)
    (hp : f.cl = false → f.lasts.length ≤ f.seen.length) (hs : f.seen.length ≤ 4194304) (hl : f.lasts.length ≤ 4194304) :
    Calls Try.prog 88 #[.agg #[.slice A0 f.seen.length c0, .slice A1 f.lasts.length c1, .bool f.cl], .int .i64 k] w fun e w' => ∃ v, e = .returned (.agg #[v, v, .bool false]) ∧ Kd.R (Kd.int .u8) 5 w' w.heap.size (fun _ => True) v (afterB f k) ∧ Below w.heap.size w w' := by
  have H0 := Aside0.mk h0
  have HC0 := Aside0.mk hc0
  have H1 := Aside0.mk h1
  have HC1 := Aside0.mk hc1
  have HBX := fun (W : World) (h : W = w.alloc (Obj.cells #[Value.slice A0 f.seen.length c0, Value.slice A1 f.lasts.length c1, Value.bool f.cl] 61)) => h
  obtain ⟨i0, hi0, _, hz1, _⟩ := info_parts info5
  have HINF := Aside0.mk hi0
  clear hi0 hz1 HBX
  obtain ⟨seen, lasts, cl⟩ := f
  simp only at *
  by_cases ck : 0 ≤ k
  · have d0 : decide (0 ≤ k) = true := decide_eq_true ck
    obtain ⟨kk, rfl⟩ : ∃ kk : Nat, k = (kk : Int) := Int.eq_ofNat_of_zero_le ck
    have key : ∀ p : Nat, p ≤ seen.length → afterB ⟨seen, lasts, cl⟩ (kk : Int) = seen.take p → ∃ X, Aside0 (afterB ⟨seen, lasts, cl⟩ (kk : Int) = X) ∧ Aside0 ((Kd.int .u8).C w A0 X.length X) ∧ Aside0 (X.length ≤ c0) ∧ Aside0 (X.length < 140737488355328) ∧ X.length = p ∧ ∀ W : World, (Instr.slice 32 (.slice A0 seen.length c0) none (some (.int .i64 (p : Int))) none).run Try.prog W = .ok (.slice A0 X.length c0) W := by
      intro p hple he
      have hx : (seen.take p).length = p := by rw [List.length_take]; exact Nat.min_eq_left hple
      refine ⟨seen.take p, ⟨he⟩, ⟨Kd.C_take h0 hple⟩, ⟨by omega⟩, ⟨by omega⟩, hx, fun W => ?_⟩
      rw [hx]
      have HCUT := cut_to (P := Try.prog) 32 5 .i64 Try.underlying32 HINF.out A0 seen.length c0 (p : Int) (by omega) (by omega) hc0
      rw [Int.toNat_natCast] at HCUT
      exact HCUT W
    cases cl with
    | true =>
      have hb : afterB ⟨seen, lasts, true⟩ (kk : Int) = seen.take kk := by unfold afterB; rw [if_pos ck]; rfl
      by_cases hlt : (seen.length : Int) < (kk : Int)
      · obtain ⟨X, HB, HCX, HXC, HLL, hxl, HCUT⟩ := key seen.length (Nat.le_refl _) (by rw [hb, List.take_of_length_le (by omega), List.take_of_length_le (Nat.le_refl _)])
        rw [HB.out]
        have hlt2 : seen.length < kk := by omega
        have hd1 : decide ((seen.length : Int) < (kk : Int)) = true := decide_eq_true hlt
        clear hxl hp ck hk hl hb key HB h0 h1 hc0 hc1
        go_enter Try.func88, Try.ntmps88
        go_wp2_with (fail)
        refine (Clone_b A0 c0 X _ (Kd.C_alloc (Kd.C_alloc HCX.out _) _) HXC.out HLL.out).mono ?_
        rintro e w1 ⟨v, rfl, hR, hB⟩
        obtain ⟨A2, c2, rfl⟩ := Kd.R_slice hR
        have hz : ((w.alloc (Obj.cells #[Value.slice A0 seen.length c0, Value.slice A1 lasts.length c1, Value.bool true] 61)).alloc (Obj.cells #[Value.slice none 0 0, Value.slice none 0 0, Value.bool false] 61)).heap.size = w.heap.size + 2 := by simp
        have hb0 := blk_below (blk_new (w.alloc (Obj.cells #[Value.slice A0 seen.length c0, Value.slice A1 lasts.length c1, Value.bool true] 61)) (.cells #[Value.slice none 0 0, Value.slice none 0 0, Value.bool false] 61)) hB
        rw [show (w.alloc (Obj.cells #[Value.slice A0 seen.length c0, Value.slice A1 lasts.length c1, Value.bool true] 61)).heap.size = w.heap.size + 1 by simp] at hb0
        have HB0 := Aside0.mk hb0
        have HW := Aside0.mk (below_step (below_alloc (below_alloc (Below.refl w.heap.size w) _) _) hB)
        rw [hz] at hR
        have HR := Aside0.mk hR
        have hc_0 := (blk_cell hb0 0).trans rfl
        have hc_1 := (blk_cell hb0 1).trans rfl
        have hc_2 := (blk_cell hb0 2).trans rfl
        have hf_0 := blk_frozen hb0 0
        have hf_1 := blk_frozen hb0 1
        have hf_2 := blk_frozen hb0 2
        clear hz hR hB hb0
        go_wp2
        refine bodyPost_ret (results_cell_row rfl _ _ (w.heap.size + 1) 61 #[.slice A2 X.length c2, .slice A2 X.length c2, .bool false] (0, 0) _ rfl (by refine blk_put (cs := #[.slice A2 X.length c2, .slice A2 X.length c2, .bool false]) ?_ 2 _ rfl; refine blk_put (cs := #[.slice A2 X.length c2, .slice none 0 0, .bool false]) ?_ 1 _ rfl; refine blk_put (cs := #[.slice none 0 0, .slice none 0 0, .bool false]) ?_ 0 _ rfl; exact HB0.out) Try.underlying61 rfl (by kernel_rfl)) rfl ?_
        have HN : Aside0 (∀ b, w.heap.size + 2 ≤ b → b ≠ w.heap.size + 1) := ⟨fun b hb => by omega⟩
        have HR3 := Kd.R_mono (Kd.R_bound HR.out) (ok' := fun b => b ≠ w.heap.size + 1) (fun b hb => HN.out b hb.2.1)
        exact ⟨_, rfl, Kd.R_mono (Kd.R_lower (Kd.R_far (p := ⟨w.heap.size + 1, 2, none⟩) (Kd.R_far (p := ⟨w.heap.size + 1, 1, none⟩) (Kd.R_far (p := ⟨w.heap.size + 1, 0, none⟩) HR3 (fun b hb => hb) _) (fun b hb => hb) _) (fun b hb => hb) _) (Nat.le_add_right _ _)) (fun _ _ => trivial), below_set (below_set (below_set HW.out (Nat.le_add_right _ _)) (Nat.le_add_right _ _)) (Nat.le_add_right _ _)⟩
      · obtain ⟨X, HB, HCX, HXC, HLL, hxl, HCUT⟩ := key kk (by omega) hb
        rw [HB.out]
        have hlt2 : ¬ seen.length < kk := by omega
        have hd1 : decide ((seen.length : Int) < (kk : Int)) = false := decide_eq_false hlt
        clear hxl hp ck hk hl hb key HB h0 h1 hc0 hc1
        go_enter Try.func88, Try.ntmps88
        go_wp2_with (fail)
        refine (Clone_b A0 c0 X _ (Kd.C_alloc (Kd.C_alloc HCX.out _) _) HXC.out HLL.out).mono ?_
        rintro e w1 ⟨v, rfl, hR, hB⟩
        obtain ⟨A2, c2, rfl⟩ := Kd.R_slice hR
        have hz : ((w.alloc (Obj.cells #[Value.slice A0 seen.length c0, Value.slice A1 lasts.length c1, Value.bool true] 61)).alloc (Obj.cells #[Value.slice none 0 0, Value.slice none 0 0, Value.bool false] 61)).heap.size = w.heap.size + 2 := by simp
        have hb0 := blk_below (blk_new (w.alloc (Obj.cells #[Value.slice A0 seen.length c0, Value.slice A1 lasts.length c1, Value.bool true] 61)) (.cells #[Value.slice none 0 0, Value.slice none 0 0, Value.bool false] 61)) hB
        rw [show (w.alloc (Obj.cells #[Value.slice A0 seen.length c0, Value.slice A1 lasts.length c1, Value.bool true] 61)).heap.size = w.heap.size + 1 by simp] at hb0
        have HB0 := Aside0.mk hb0
        have HW := Aside0.mk (below_step (below_alloc (below_alloc (Below.refl w.heap.size w) _) _) hB)
        rw [hz] at hR
        have HR := Aside0.mk hR
        have hc_0 := (blk_cell hb0 0).trans rfl
        have hc_1 := (blk_cell hb0 1).trans rfl
        have hc_2 := (blk_cell hb0 2).trans rfl
        have hf_0 := blk_frozen hb0 0
        have hf_1 := blk_frozen hb0 1
        have hf_2 := blk_frozen hb0 2
        clear hz hR hB hb0
        go_wp2
        refine bodyPost_ret (results_cell_row rfl _ _ (w.heap.size + 1) 61 #[.slice A2 X.length c2, .slice A2 X.length c2, .bool false] (0, 0) _ rfl (by refine blk_put (cs := #[.slice A2 X.length c2, .slice A2 X.length c2, .bool false]) ?_ 2 _ rfl; refine blk_put (cs := #[.slice A2 X.length c2, .slice none 0 0, .bool false]) ?_ 1 _ rfl; refine blk_put (cs := #[.slice none 0 0, .slice none 0 0, .bool false]) ?_ 0 _ rfl; exact HB0.out) Try.underlying61 rfl (by kernel_rfl)) rfl ?_
        have HN : Aside0 (∀ b, w.heap.size + 2 ≤ b → b ≠ w.heap.size + 1) := ⟨fun b hb => by omega⟩
        have HR3 := Kd.R_mono (Kd.R_bound HR.out) (ok' := fun b => b ≠ w.heap.size + 1) (fun b hb => HN.out b hb.2.1)
        exact ⟨_, rfl, Kd.R_mono (Kd.R_lower (Kd.R_far (p := ⟨w.heap.size + 1, 2, none⟩) (Kd.R_far (p := ⟨w.heap.size + 1, 1, none⟩) (Kd.R_far (p := ⟨w.heap.size + 1, 0, none⟩) HR3 (fun b hb => hb) _) (fun b hb => hb) _) (fun b hb => hb) _) (Nat.le_add_right _ _)) (fun _ _ => trivial), below_set (below_set (below_set HW.out (Nat.le_add_right _ _)) (Nat.le_add_right _ _)) (Nat.le_add_right _ _)⟩
    | false =>
      have hb : afterB ⟨seen, lasts, false⟩ (kk : Int) = seen.take (lasts.length + kk) := by unfold afterB; rw [if_pos ck]; rfl
      have hpl := hp rfl
      obtain ⟨rr, hrr⟩ : ∃ rr : Nat, seen.length - lasts.length = rr := ⟨_, rfl⟩
      have hw1 : wrap64 ((seen.length : Int) - (lasts.length : Int)) = (rr : Int) := by unfold wrap64; omega
      by_cases hlt : (rr : Int) < (kk : Int)
      · obtain ⟨X, HB, HCX, HXC, HLL, hxl, HCUT⟩ := key seen.length (Nat.le_refl _) (by rw [hb, List.take_of_length_le (by omega), List.take_of_length_le (Nat.le_refl _)])
        have hsum : wrap64 ((lasts.length : Int) + (rr : Int)) = (seen.length : Int) := by clear hw1; unfold wrap64; omega
        rw [HB.out]
        have hlt2 : rr < kk := by omega
        have hd1 : decide ((rr : Int) < (kk : Int)) = true := decide_eq_true hlt
        clear hxl hp ck hk hs hl hb key HB h0 h1 hc0 hc1 hpl hrr
        go_enter Try.func88, Try.ntmps88
        go_wp2_with (fail)
        refine (Clone_b A0 c0 X _ (Kd.C_alloc (Kd.C_alloc HCX.out _) _) HXC.out HLL.out).mono ?_
        rintro e w1 ⟨v, rfl, hR, hB⟩
        obtain ⟨A2, c2, rfl⟩ := Kd.R_slice hR
        have hz : ((w.alloc (Obj.cells #[Value.slice A0 seen.length c0, Value.slice A1 lasts.length c1, Value.bool false] 61)).alloc (Obj.cells #[Value.slice none 0 0, Value.slice none 0 0, Value.bool false] 61)).heap.size = w.heap.size + 2 := by simp
        have hb0 := blk_below (blk_new (w.alloc (Obj.cells #[Value.slice A0 seen.length c0, Value.slice A1 lasts.length c1, Value.bool false] 61)) (.cells #[Value.slice none 0 0, Value.slice none 0 0, Value.bool false] 61)) hB
        rw [show (w.alloc (Obj.cells #[Value.slice A0 seen.length c0, Value.slice A1 lasts.length c1, Value.bool false] 61)).heap.size = w.heap.size + 1 by simp] at hb0
        have HB0 := Aside0.mk hb0
        have HW := Aside0.mk (below_step (below_alloc (below_alloc (Below.refl w.heap.size w) _) _) hB)
        rw [hz] at hR
        have HR := Aside0.mk hR
        have hc_0 := (blk_cell hb0 0).trans rfl
        have hc_1 := (blk_cell hb0 1).trans rfl
        have hc_2 := (blk_cell hb0 2).trans rfl
        have hf_0 := blk_frozen hb0 0
        have hf_1 := blk_frozen hb0 1
        have hf_2 := blk_frozen hb0 2
        clear hz hR hB hb0
        go_wp2
        refine bodyPost_ret (results_cell_row rfl _ _ (w.heap.size + 1) 61 #[.slice A2 X.length c2, .slice A2 X.length c2, .bool false] (0, 0) _ rfl (by refine blk_put (cs := #[.slice A2 X.length c2, .slice A2 X.length c2, .bool false]) ?_ 2 _ rfl; refine blk_put (cs := #[.slice A2 X.length c2, .slice none 0 0, .bool false]) ?_ 1 _ rfl; refine blk_put (cs := #[.slice none 0 0, .slice none 0 0, .bool false]) ?_ 0 _ rfl; exact HB0.out) Try.underlying61 rfl (by kernel_rfl)) rfl ?_
        have HN : Aside0 (∀ b, w.heap.size + 2 ≤ b → b ≠ w.heap.size + 1) := ⟨fun b hb => by omega⟩
        have HR3 := Kd.R_mono (Kd.R_bound HR.out) (ok' := fun b => b ≠ w.heap.size + 1) (fun b hb => HN.out b hb.2.1)
        exact ⟨_, rfl, Kd.R_mono (Kd.R_lower (Kd.R_far (p := ⟨w.heap.size + 1, 2, none⟩) (Kd.R_far (p := ⟨w.heap.size + 1, 1, none⟩) (Kd.R_far (p := ⟨w.heap.size + 1, 0, none⟩) HR3 (fun b hb => hb) _) (fun b hb => hb) _) (fun b hb => hb) _) (Nat.le_add_right _ _)) (fun _ _ => trivial), below_set (below_set (below_set HW.out (Nat.le_add_right _ _)) (Nat.le_add_right _ _)) (Nat.le_add_right _ _)⟩
      · obtain ⟨z, hz⟩ : ∃ z : Nat, lasts.length + kk = z := ⟨_, rfl⟩
        obtain ⟨X, HB, HCX, HXC, HLL, hxl, HCUT⟩ := key z (by omega) (by rw [hb, hz])
        have hsum : wrap64 ((lasts.length : Int) + (kk : Int)) = (z : Int) := by clear hw1; unfold wrap64; omega
        rw [HB.out]
        have hlt2 : ¬ rr < kk := by omega
        have hd1 : decide ((rr : Int) < (kk : Int)) = false := decide_eq_false hlt
        clear hxl hp ck hk hs hl hb key HB h0 h1 hc0 hc1 hpl hrr hz
        go_enter Try.func88, Try.ntmps88
        go_wp2_with (fail)
        refine (Clone_b A0 c0 X _ (Kd.C_alloc (Kd.C_alloc HCX.out _) _) HXC.out HLL.out).mono ?_
        rintro e w1 ⟨v, rfl, hR, hB⟩
        obtain ⟨A2, c2, rfl⟩ := Kd.R_slice hR
        have hz : ((w.alloc (Obj.cells #[Value.slice A0 seen.length c0, Value.slice A1 lasts.length c1, Value.bool false] 61)).alloc (Obj.cells #[Value.slice none 0 0, Value.slice none 0 0, Value.bool false] 61)).heap.size = w.heap.size + 2 := by simp
        have hb0 := blk_below (blk_new (w.alloc (Obj.cells #[Value.slice A0 seen.length c0, Value.slice A1 lasts.length c1, Value.bool false] 61)) (.cells #[Value.slice none 0 0, Value.slice none 0 0, Value.bool false] 61)) hB
        rw [show (w.alloc (Obj.cells #[Value.slice A0 seen.length c0, Value.slice A1 lasts.length c1, Value.bool false] 61)).heap.size = w.heap.size + 1 by simp] at hb0
        have HB0 := Aside0.mk hb0
        have HW := Aside0.mk (below_step (below_alloc (below_alloc (Below.refl w.heap.size w) _) _) hB)
        rw [hz] at hR
        have HR := Aside0.mk hR
        have hc_0 := (blk_cell hb0 0).trans rfl
        have hc_1 := (blk_cell hb0 1).trans rfl
        have hc_2 := (blk_cell hb0 2).trans rfl
        have hf_0 := blk_frozen hb0 0
        have hf_1 := blk_frozen hb0 1
        have hf_2 := blk_frozen hb0 2
        clear hz hR hB hb0
        go_wp2
        refine bodyPost_ret (results_cell_row rfl _ _ (w.heap.size + 1) 61 #[.slice A2 X.length c2, .slice A2 X.length c2, .bool false] (0, 0) _ rfl (by refine blk_put (cs := #[.slice A2 X.length c2, .slice A2 X.length c2, .bool false]) ?_ 2 _ rfl; refine blk_put (cs := #[.slice A2 X.length c2, .slice none 0 0, .bool false]) ?_ 1 _ rfl; refine blk_put (cs := #[.slice none 0 0, .slice none 0 0, .bool false]) ?_ 0 _ rfl; exact HB0.out) Try.underlying61 rfl (by kernel_rfl)) rfl ?_
        have HN : Aside0 (∀ b, w.heap.size + 2 ≤ b → b ≠ w.heap.size + 1) := ⟨fun b hb => by omega⟩
        have HR3 := Kd.R_mono (Kd.R_bound HR.out) (ok' := fun b => b ≠ w.heap.size + 1) (fun b hb => HN.out b hb.2.1)
        exact ⟨_, rfl, Kd.R_mono (Kd.R_lower (Kd.R_far (p := ⟨w.heap.size + 1, 2, none⟩) (Kd.R_far (p := ⟨w.heap.size + 1, 1, none⟩) (Kd.R_far (p := ⟨w.heap.size + 1, 0, none⟩) HR3 (fun b hb => hb) _) (fun b hb => hb) _) (fun b hb => hb) _) (Nat.le_add_right _ _)) (fun _ _ => trivial), below_set (below_set (below_set HW.out (Nat.le_add_right _ _)) (Nat.le_add_right _ _)) (Nat.le_add_right _ _)⟩
  · have d0 : decide (0 ≤ k) = false := decide_eq_false ck
    have HB := Aside0.mk (show afterB ⟨seen, lasts, cl⟩ k = lasts by unfold afterB; rw [if_neg ck])
    rw [HB.out]
    clear hp ck
    have HLL := Aside0.mk (show lasts.length < 140737488355328 by omega)
    go_enter Try.func88, Try.ntmps88
    go_wp2_with (fail)
    refine (Clone_b A1 c1 lasts _ (Kd.C_alloc (Kd.C_alloc H1.out _) _) HC1.out HLL.out).mono ?_
    rintro e w1 ⟨v, rfl, hR, hB⟩
    obtain ⟨A2, c2, rfl⟩ := Kd.R_slice hR
    have hz : ((w.alloc (Obj.cells #[Value.slice A0 seen.length c0, Value.slice A1 lasts.length c1, Value.bool cl] 61)).alloc (Obj.cells #[Value.slice none 0 0, Value.slice none 0 0, Value.bool false] 61)).heap.size = w.heap.size + 2 := by simp
    have hb0 := blk_below (blk_new (w.alloc (Obj.cells #[Value.slice A0 seen.length c0, Value.slice A1 lasts.length c1, Value.bool cl] 61)) (.cells #[Value.slice none 0 0, Value.slice none 0 0, Value.bool false] 61)) hB
    rw [show (w.alloc (Obj.cells #[Value.slice A0 seen.length c0, Value.slice A1 lasts.length c1, Value.bool cl] 61)).heap.size = w.heap.size + 1 by simp] at hb0
    have HB0 := Aside0.mk hb0
    have HW := Aside0.mk (below_step (below_alloc (below_alloc (Below.refl w.heap.size w) _) _) hB)
    rw [hz] at hR
    have HR := Aside0.mk hR
    have hc_0 := (blk_cell hb0 0).trans rfl
    have hc_1 := (blk_cell hb0 1).trans rfl
    have hc_2 := (blk_cell hb0 2).trans rfl
    have hf_0 := blk_frozen hb0 0
    have hf_1 := blk_frozen hb0 1
    have hf_2 := blk_frozen hb0 2
    clear hz hR hB hb0
    go_wp2
    refine bodyPost_ret (results_cell_row rfl _ _ (w.heap.size + 1) 61 #[.slice A2 lasts.length c2, .slice A2 lasts.length c2, .bool false] (0, 0) _ rfl (by refine blk_put (cs := #[.slice A2 lasts.length c2, .slice A2 lasts.length c2, .bool false]) ?_ 2 _ rfl; refine blk_put (cs := #[.slice A2 lasts.length c2, .slice none 0 0, .bool false]) ?_ 1 _ rfl; refine blk_put (cs := #[.slice none 0 0, .slice none 0 0, .bool false]) ?_ 0 _ rfl; exact HB0.out) Try.underlying61 rfl (by kernel_rfl)) rfl ?_
    have HN : Aside0 (∀ b, w.heap.size + 2 ≤ b → b ≠ w.heap.size + 1) := ⟨fun b hb => by omega⟩
    have HR3 := Kd.R_mono (Kd.R_bound HR.out) (ok' := fun b => b ≠ w.heap.size + 1) (fun b hb => HN.out b hb.2.1)
    exact ⟨_, rfl, Kd.R_mono (Kd.R_lower (Kd.R_far (p := ⟨w.heap.size + 1, 2, none⟩) (Kd.R_far (p := ⟨w.heap.size + 1, 1, none⟩) (Kd.R_far (p := ⟨w.heap.size + 1, 0, none⟩) HR3 (fun b hb => hb) _) (fun b hb => hb) _) (fun b hb => hb) _) (Nat.le_add_right _ _)) (fun _ _ => trivial), below_set (below_set (below_set HW.out (Nat.le_add_right _ _)) (Nat.le_add_right _ _)) (Nat.le_add_right _ _)⟩
end Go.Proofs.Ytehjbhnlbjbhfaa.Dk
-- DkE
namespace Go.Proofs.Ytehjbhnlbjbhfaa.Dk
open Go Go.RowKit Go.Proofs.YtehjbhnlbjbhfaaW.PrintWords Go.Proofs.YtehjbhnlbjbhfaaW.PrintLast Go.Proofs.YtehjbhnlbjbhfaaW.PrintMore
open Go.Proofs.Ytehjbhnlbjbhfaa.PDiskBegins
set_option linter.unusedVariables false
set_option linter.unusedSimpArgs false
def midFs (s : DS) (keep : List Int) (i : Nat) : List Fl := (List.range 8).map fun j => if j < i then afterP (fl s j) (kv keep j) else fl s j
theorem midFs_len (s : DS) (keep : List Int) (i : Nat) : (midFs s keep i).length = 8 := by simp [midFs]
theorem midFs_0 (s : DS) (keep : List Int) (h : s.fs.length = 8) : midFs s keep 0 = s.fs := by
  obtain ⟨a0, a1, a2, a3, a4, a5, a6, a7, e⟩ := eight h
  simp [midFs, fl, e, List.range, List.range.loop]
theorem midFs_8 (s : DS) (keep : List Int) (h : s.fs.length = 8) : midFs s keep 8 = fallFs keep 0 s.fs := by
  obtain ⟨a0, a1, a2, a3, a4, a5, a6, a7, e⟩ := eight h
  simp [midFs, fl, e, List.range, List.range.loop, fallFs]
theorem midFs_get (s : DS) (keep : List Int) (i j : Nat) (h : j < 8) : (midFs s keep i).getD j nf = if j < i then afterP (fl s j) (kv keep j) else fl s j := by
  unfold midFs
  rw [List.getD_eq_getElem?_getD, List.getElem?_map, List.getElem?_range h]; rfl
def midS (s : DS) (keep : List Int) (i : Nat) : DS := { s with fs := midFs s keep i }
theorem fl_mid (s : DS) (keep : List Int) (i j : Nat) (h : j < 8) : fl (midS s keep i) j = if j < i then afterP (fl s j) (kv keep j) else fl s j := midFs_get s keep i j h
theorem kv_range {keep : List Int} (h : ∀ x ∈ keep, -9223372036854775808 ≤ x ∧ x ≤ 9223372036854775807) (i : Nat) : -9223372036854775808 ≤ kv keep i ∧ kv keep i ≤ 9223372036854775807 := by
  unfold kv
  by_cases c : i < keep.length
  · rw [if_pos c]
    have : rd keep (i : Int) ∈ keep := by unfold rd; rw [Int.toNat_natCast, List.getD_eq_getElem?_getD, List.getElem?_eq_getElem c]; exact List.getElem_mem c
    exact h _ this
  · rw [if_neg c]; decide
theorem Rows.file {G : Nat → Prop} {W : World} {d : DV} {s : DS} (h : Rows G W d s) (hd : d.fs.length = 8) {i : Nat} (hi : i < 8) {v : FV} {f : Fl} (hf : FR G W v f) {d' : DV} {s' : DS} (ed : d' = { d with fs := d.fs.set i v }) (es : s' = { s with fs := s.fs.set i f }) : Rows G W d' s' := by
  subst ed es
  obtain ⟨h1, h2, h3, h4, h5, h6, h7⟩ := h
  refine ⟨h1, h2, h3, h4, h5, by simp [h6], fun j hj => ?_⟩
  have ea : (DV.f { d with fs := d.fs.set i v } j) = if i = j then v else d.f j := by
    unfold DV.f
    rw [List.getD_eq_getElem?_getD, List.getD_eq_getElem?_getD]
    simp only [List.getElem?_set]
    split
    · rename_i e; subst e; rw [if_pos (by omega)]; rfl
    · rfl
  have eb : (fl { s with fs := s.fs.set i f } j) = if i = j then f else fl s j := by
    unfold fl
    rw [List.getD_eq_getElem?_getD, List.getD_eq_getElem?_getD]
    simp only [List.getElem?_set]
    split
    · rename_i e; subst e; rw [if_pos (by omega)]; rfl
    · rfl
  rw [ea, eb]
  split
  · exact hf
  · exact h7 j hj
theorem mid_set (s : DS) (keep : List Int) {i : Nat} (hi : i < 8) : midS s keep (i + 1) = { midS s keep i with fs := (midS s keep i).fs.set i (afterP (fl s i) (kv keep i)) } := by
  unfold midS
  congr 1
  unfold midFs
  apply List.ext_getElem?
  intro j
  rw [List.getElem?_set]
  simp only [List.getElem?_map, List.length_map, List.length_range]
  rcases Nat.lt_or_ge j 8 with hj | hj
  · rw [List.getElem?_range hj]
    simp only [Option.map_some]
    by_cases e : i = j
    · subst e; rw [if_pos rfl, if_pos hi, if_pos (by omega)]
    · rw [if_neg e]
      by_cases c : j < i
      · rw [if_pos c, if_pos (by omega)]
      · rw [if_neg c, if_neg (by omega)]
  · rw [List.getElem?_eq_none (by simp; exact hj), if_neg (by omega)]; rfl
theorem At.set3 {W : World} {g : Nat} {d : DV} (h : At W g d) {i : Nat} (hi : i < 8) (v u : Value) (b : Bool) : At (((W.setCell ⟨g, 3 + i * 3, none⟩ v).setCell ⟨g, 3 + i * 3 + 1, none⟩ u).setCell ⟨g, 3 + i * 3 + 2, none⟩ (.bool b)) g { d with fs := d.fs.set i ⟨v, u, b⟩ } := by
  have h3 := ((h.setS hi v).setL hi u).setC hi b
  have e : ∀ (d : DV) (x : FV), d.fs.length = 8 → (DV.f { d with fs := d.fs.set i x } i) = x := by
    intro d x hd
    unfold DV.f
    rw [List.getD_eq_getElem?_getD, List.getElem?_set_self (by rw [hd]; exact hi)]; rfl
  rw [e d _ h.1] at h3
  simp only at h3
  have e2 := e { d with fs := d.fs.set i ⟨v, (d.f i).lv, (d.f i).cl⟩ } ⟨v, u, (d.f i).cl⟩ (by simp [h.1])
  simp only at e2
  rw [e2] at h3
  simpa only [List.set_set] using h3
set_option maxHeartbeats 8000000 in
set_option maxRecDepth 100000 in
theorem fall_calls (G : Nat → Prop) (g : Nat) (s : DS) (kV : Value) (keep : List Int) (w : World) (h : IsD G w g s) (hok : Ok s) (hk : Rw (fun b => b = g) .i64 w kV keep) (hkr : ∀ x ∈ keep, -9223372036854775808 ≤ x ∧ x ≤ 9223372036854775807) :
    Calls Try.prog 69 #[.pointer (some ⟨g, 0, none⟩), kV] w fun e w' => e = .returned (.tuple #[]) ∧ IsD G w' g (fallP s keep) ∧ Wr g w w' := by
  have HOK := Aside0.mk hok
  have HK := Aside0.mk hk
  have HKR := Aside0.mk (fun i => kv_range hkr i)
  have H0 := Aside0.mk (show IsD G w g (midS s keep 0) from by unfold midS; rw [midFs_0 s keep hok.len]; exact h)
  have HW := Aside0.mk (Wr.refl g w)
  obtain ⟨A0, c0, rfl, _, _⟩ := hk.slice
  have hm := Kd.C_max (Kd.V_reads' hk).2.2
  clear h hok hk hkr
  go_enter Try.func69, Try.ntmps69
  go_wp2_with (fail)
  go_loopw [6] (fun v6 wr => ∃ i : Nat, i ≤ 8 ∧ v6 = .int .i64 (i : Int) ∧ Aside0 (IsD G wr g (midS s keep i)) ∧ Aside0 (Wr g w wr)) (fun v6 _ => (8 - intOf v6).toNat)
  case atStart => exact ⟨0, by omega, rfl, H0, HW⟩
  case round =>
    obtain ⟨i, hi, rfl, H, HW⟩ := hrel
    clear H0
    by_cases hlt : i < 8
    · obtain ⟨hG, hgg, d, hA, hR⟩ := H.out
      have HG := Aside0.mk (And.intro hG hgg)
      have HA := Aside0.mk hA
      have HRS := Aside0.mk hR
      obtain ⟨f1, f2, f3⟩ := hR.2.2.2.2.2.2 i hlt
      rw [fl_mid s keep i i hlt, if_neg (Nat.lt_irrefl i)] at f1 f2 f3
      obtain ⟨A, c, hv, hvc, hC0⟩ := f1.slice
      obtain ⟨B, b, hx, hxc, hC1⟩ := f2.slice
      have hs := hA.sv hlt
      have hl := hA.lv hlt
      have hc := hA.cl hlt
      rw [hv] at hs
      rw [hx] at hl
      rw [f3] at hc
      have hfs := hA.frozen (3 + i * 3)
      have hfl := hA.frozen (3 + i * 3 + 1)
      have hfc := hA.frozen (3 + i * 3 + 2)
      have HGL := Aside0.mk hA.lt
      have HC0 := Aside0.mk hC0
      have HC1 := Aside0.mk hC1
      have hff := HOK.out.fl_mem hlt
      have HAF := Aside0.mk (fun (W : World) (q0 : (Kd.int .u8).C W A (fl s i).seen.length (fl s i).seen) (q1 : (Kd.int .u8).C W B (fl s i).lasts.length (fl s i).lasts) => after_calls A c B b (fl s i) (kv keep i) W (HKR.out i) q0 hvc q1 hxc (fun e => by
        obtain ⟨t, ht⟩ := HOK.out.pre _ hff e
        rw [ht, List.length_append]; omega) (HOK.out.seen_le hlt) (HOK.out.big _ hff))
      have HST := Aside0.mk (mid_set s keep hlt)
      have HAE := Aside0.mk (after_eq (fl s i) (kv keep i))
      rw [HAE.out] at HST
      clear hG hgg hA hR f1 f2 f3 hv hvc hC0 hx hxc hC1 hff H
      generalize (fl s i).seen.length = n at *
      generalize (fl s i).lasts.length = m at *
      generalize (fl s i).cl = cl at *
      by_cases hkl : i < keep.length
      case' pos =>
        obtain ⟨ad, e0, hcell⟩ := Kd.at_int (Kd.V_reads' (Kd.V_step HK.out (fun b hb hlt => HW.out.block b hlt (fun e => hb e)))).2.2 (i : Int) (by omega) (by omega)
        cases e0
        rw [Int.toNat_natCast] at hcell
        have HKE := Aside0.mk (show kv keep i = rd keep (i : Int) by unfold kv; rw [if_pos hkl])
        rw [← HKE.out] at hcell
      case' neg =>
        have HKE := Aside0.mk (show kv keep i = -1 by unfold kv; rw [if_neg hkl])
        rw [HKE.out] at HAF HST HAE
      case pos =>
        generalize kv keep i = k at *
        go_wp2
        clear hcell
        refine start_ (n := 14) (S := fun w' => w'.cell? ⟨g, 3 + i * 3, none⟩ = some (.slice A n c) ∧ w'.cell? ⟨g, 3 + i * 3 + 1, none⟩ = some (.slice B m b) ∧ w'.cell? ⟨g, 3 + i * 3 + 2, none⟩ = some (.bool cl) ∧ w'.frozen? ⟨g, 3 + i * 3, none⟩ = false ∧ w'.frozen? ⟨g, 3 + i * 3 + 1, none⟩ = false ∧ w'.frozen? ⟨g, 3 + i * 3 + 2, none⟩ = false) (ds := [13]) #[false, false, false, false, false, false, false, false, false, false, false, false, false, false] (by kernel_rfl) rfl rfl ⟨hs, hl, hc, hfs, hfl, hfc⟩ (fun hHeld => ?_)
        refine pure_ (i := 0) (N := some 17) (v := ?_) (a' := ?_) #[true, false, false, false, false, false, false, false, false, false, false, false, false, false] rfl rfl (by kernel_rfl) (fun _ _ _ h => h) (Or.inl ⟨by rfl, ?_⟩) ?_ ?_
        rotate_left
        · intro w'
          go_simp
          with_reducible rfl
        rotate_left
        · simp only [Act.put, List.setIfInBounds_toArray, List.set_cons_zero, List.set_cons_succ, i64_w, i32_w]
          rfl
        refine pure_ (i := 1) (N := some 18) (v := ?_) (a' := ?_) #[true, true, false, false, false, false, false, false, false, false, false, false, false, false] rfl rfl (by kernel_rfl) (fun _ _ _ h => h) (Or.inl ⟨by rfl, ?_⟩) ?_ ?_
        rotate_left
        · intro w'
          go_simp
          with_reducible rfl
        rotate_left
        · simp only [Act.put, List.setIfInBounds_toArray, List.set_cons_zero, List.set_cons_succ, i64_w, i32_w]
          rfl
        refine pure_ (i := 2) (N := some 19) (v := ?_) (a' := ?_) #[true, true, true, false, false, false, false, false, false, false, false, false, false, false] rfl rfl (by kernel_rfl) (fun _ _ _ h => h) (Or.inl ⟨by rfl, ?_⟩) ?_ ?_
        rotate_left
        · intro w'
          go_simp
          with_reducible rfl
        rotate_left
        · simp only [Act.put, List.setIfInBounds_toArray, List.set_cons_zero, List.set_cons_succ, i64_w, i32_w]
          rfl
        refine pure_ (i := 3) (N := some 20) (v := ?_) (a' := ?_) #[true, true, true, true, false, false, false, false, false, false, false, false, false, false] rfl rfl (by kernel_rfl) (fun _ _ _ h => h) (Or.inl ⟨by rfl, ?_⟩) ?_ ?_
        rotate_left
        · intro w'
          go_simp
          with_reducible rfl
        rotate_left
        · simp only [Act.put, List.setIfInBounds_toArray, List.set_cons_zero, List.set_cons_succ, i64_w, i32_w]
          rfl
        refine pure_ (i := 4) (N := some 21) (v := ?_) (a' := ?_) #[true, true, true, true, true, false, false, false, false, false, false, false, false, false] rfl rfl (by kernel_rfl) (fun _ _ _ h => h) (Or.inl ⟨by rfl, ?_⟩) ?_ ?_
        rotate_left
        · intro w'
          go_simp
          with_reducible rfl
        rotate_left
        · simp only [Act.put, List.setIfInBounds_toArray, List.set_cons_zero, List.set_cons_succ, i64_w, i32_w]
          rfl
        refine pure_ (i := 5) (N := some 22) (v := ?_) (a' := ?_) #[true, true, true, true, true, true, false, false, false, false, false, false, false, false] rfl rfl (by kernel_rfl) (fun _ _ _ h => h) (Or.inl ⟨by rfl, ?_⟩) ?_ ?_
        rotate_left
        · intro w'
          go_simp
          with_reducible rfl
        rotate_left
        · simp only [Act.put, List.setIfInBounds_toArray, List.set_cons_zero, List.set_cons_succ, i64_w, i32_w]
          rfl
        refine pure_ (i := 6) (N := some 23) (v := ?_) (a' := ?_) #[true, true, true, true, true, true, true, false, false, false, false, false, false, false] rfl rfl (by kernel_rfl) (fun _ _ _ h => h) (Or.inl ⟨by rfl, ?_⟩) ?_ ?_
        rotate_left
        · intro w'
          go_simp
          with_reducible rfl
        rotate_left
        · simp only [Act.put, List.setIfInBounds_toArray, List.set_cons_zero, List.set_cons_succ, i64_w, i32_w]
          rfl
        refine pure_ (i := 8) (N := some 25) (v := ?_) (a' := ?_) #[true, true, true, true, true, true, true, false, true, false, false, false, false, false] rfl rfl (by kernel_rfl) (fun _ _ _ h => h) (Or.inl ⟨by rfl, ?_⟩) ?_ ?_
        rotate_left
        · intro w'
          go_simp
          with_reducible rfl
        rotate_left
        · simp only [Act.put, List.setIfInBounds_toArray, List.set_cons_zero, List.set_cons_succ, i64_w, i32_w]
          rfl
        refine pure_ (i := 10) (N := some 27) (v := ?_) (a' := ?_) #[true, true, true, true, true, true, true, false, true, false, true, false, false, false] rfl rfl (by kernel_rfl) (fun _ _ _ h => h) (Or.inl ⟨by rfl, ?_⟩) ?_ ?_
        rotate_left
        · intro w'
          go_simp
          with_reducible rfl
        rotate_left
        · simp only [Act.put, List.setIfInBounds_toArray, List.set_cons_zero, List.set_cons_succ, i64_w, i32_w]
          rfl
        refine pure_ (i := 11) (N := some 28) (v := ?_) (a' := ?_) #[true, true, true, true, true, true, true, false, true, false, true, true, false, false] rfl rfl (by kernel_rfl) (fun _ _ _ h => h) (Or.inl ⟨by rfl, ?_⟩) ?_ ?_
        rotate_left
        · intro w'
          go_simp
          with_reducible rfl
        rotate_left
        · simp only [Act.put, List.setIfInBounds_toArray, List.set_cons_zero, List.set_cons_succ, i64_w, i32_w]
          rfl
        refine take_ (i := 7) (N := some 24) (v := ?_) (a' := ?_) #[true, true, true, true, true, true, true, true, true, false, true, true, false, false] rfl rfl (by kernel_rfl) (fun _ _ _ h => h) (Or.inl ⟨by rfl, ?_⟩) hHeld ?_ ?_
        rotate_left
        · rintro w' ⟨s0, s1, s2, s3, s4, s5⟩
          go_simp
          with_reducible rfl
        rotate_left
        · simp only [Act.put, List.setIfInBounds_toArray, List.set_cons_zero, List.set_cons_succ, i64_w, i32_w]
          rfl
        refine one_ (i := 9) (N := some 26) #[true, true, true, true, true, true, true, true, true, true, true, true, false, false] rfl rfl (by kernel_rfl) (by decide) (fun K hK => ?_)
        refine goes_ Try.func88 (by kernel_rfl) rfl #[.agg #[.slice A n c, .slice B m b, .bool cl], .int .i64 k] (by rfl) rfl rfl (by first | rfl | (simp; done) | (simp only [List.map_toArray, List.map_cons, List.map_nil]; rfl)) ?_
        with_reducible refine (HAF.out _ (by repeat (first | exact HC0.out | (with_reducible refine Kd.C_drew ?_) | (with_reducible refine Kd.C_drewN ?_ _))) (by repeat (first | exact HC1.out | (with_reducible refine Kd.C_drew ?_) | (with_reducible refine Kd.C_drewN ?_ _)))).mono ?_
        rintro e w3 ⟨v, rfl, hR, hb⟩
        refine ⟨_, rfl, ?_⟩
        obtain ⟨A3, c3, e3⟩ := Kd.R_slice hR
        subst e3
        refine hK.out _ _ ⟨(hb.cell (p := ⟨g, 3 + i * 3, none⟩) HGL.out).trans hHeld.1, (hb.cell (p := ⟨g, 3 + i * 3 + 1, none⟩) HGL.out).trans hHeld.2.1, (hb.cell (p := ⟨g, 3 + i * 3 + 2, none⟩) HGL.out).trans hHeld.2.2.1, (hb.frozen (p := ⟨g, 3 + i * 3, none⟩) HGL.out).trans hHeld.2.2.2.1, (hb.frozen (p := ⟨g, 3 + i * 3 + 1, none⟩) HGL.out).trans hHeld.2.2.2.2.1, (hb.frozen (p := ⟨g, 3 + i * 3 + 2, none⟩) HGL.out).trans hHeld.2.2.2.2.2⟩ (fun hHeld => ?_)
        clear hK K
        refine norm_ (a' := ?_) ?_ ?_
        rotate_left
        · show Act.put _ (some 26) _ = _
          simp only [Act.put, List.setIfInBounds_toArray, List.set_cons_zero, List.set_cons_succ, i64_w, i32_w]
          rfl
        refine pure_ (i := 12) (N := some 29) (v := ?_) (a' := ?_) #[true, true, true, true, true, true, true, true, true, true, true, true, true, false] rfl rfl (by kernel_rfl) (fun _ _ _ h => h) (Or.inl ⟨by rfl, ?_⟩) ?_ ?_
        rotate_left
        · intro w'
          go_simp
          with_reducible rfl
        rotate_left
        · simp only [Act.put, List.setIfInBounds_toArray, List.set_cons_zero, List.set_cons_succ, i64_w, i32_w]
          rfl
        refine last_ (i := 13) (N := none) #[true, true, true, true, true, true, true, true, true, true, true, true, true, true] rfl rfl (by kernel_rfl) (by decide) (fun K hK => ?_)
        obtain ⟨hx0, hx1, hx2, hy0, hy1, hy2⟩ := hHeld
        refine skip_ (w1 := ?_) (by rfl) rfl ?_ ?_
        rotate_left
        · go_simp
          rfl
        refine hK.out _ _ ?_
        clear hK K
        refine done_ (by kernel_rfl) ?_
        have HB3 := Aside0.mk (below_step (below_drew1 (Below.refl wr.heap.size wr)) hb)
        have HR3 := Aside0.mk hR
        clear hb hR hHeld hs hl hc hfs hfl hfc
        go_wp2
        go_roundw
        case rel =>
          have hw3 : Wr g wr w3 := Wr.of_below HB3.out
          have hA3 := HA.out.same (HB3.out.block g HGL.out)
          have hRw := Rw.of_R HR3.out (G := G) (fun b hb => HG.out.1 b hb)
          have hA4 := hA3.set3 hlt (.slice A3 (afterB (fl s i) k).length c3) (.slice A3 (afterB (fl s i) k).length c3) false
          have hw4 := ((hw3.set (3 + i * 3) (.slice A3 (afterB (fl s i) k).length c3)).set (3 + i * 3 + 1) (.slice A3 (afterB (fl s i) k).length c3)).set (3 + i * 3 + 2) (.bool false)
          have hw43 := (((Wr.refl g w3).set (3 + i * 3) (.slice A3 (afterB (fl s i) k).length c3)).set (3 + i * 3 + 1) (.slice A3 (afterB (fl s i) k).length c3)).set (3 + i * 3 + 2) (.bool false)
          refine ⟨i + 1, by omega, by go_num, ⟨?_⟩, ⟨HW.out.trans hw4⟩⟩
          have hRw4 := hRw.wr hw43 HG.out.2
          exact ⟨fun b hb => Nat.lt_of_lt_of_le (HG.out.1 b hb) hw4.size, HG.out.2, _, hA4, (HRS.out.wr hw4 HG.out.2).file HA.out.1 hlt (f := ⟨afterB (fl s i) k, afterB (fl s i) k, false⟩) ⟨hRw4, hRw4, rfl⟩ rfl HST.out⟩
        case measure => simp [intOf]; omega
      case neg =>
        go_wp2
        refine start_ (n := 14) (S := fun w' => w'.cell? ⟨g, 3 + i * 3, none⟩ = some (.slice A n c) ∧ w'.cell? ⟨g, 3 + i * 3 + 1, none⟩ = some (.slice B m b) ∧ w'.cell? ⟨g, 3 + i * 3 + 2, none⟩ = some (.bool cl) ∧ w'.frozen? ⟨g, 3 + i * 3, none⟩ = false ∧ w'.frozen? ⟨g, 3 + i * 3 + 1, none⟩ = false ∧ w'.frozen? ⟨g, 3 + i * 3 + 2, none⟩ = false) (ds := [13]) #[false, false, false, false, false, false, false, false, false, false, false, false, false, false] (by kernel_rfl) rfl rfl ⟨hs, hl, hc, hfs, hfl, hfc⟩ (fun hHeld => ?_)
        refine pure_ (i := 0) (N := some 17) (v := ?_) (a' := ?_) #[true, false, false, false, false, false, false, false, false, false, false, false, false, false] rfl rfl (by kernel_rfl) (fun _ _ _ h => h) (Or.inl ⟨by rfl, ?_⟩) ?_ ?_
        rotate_left
        · intro w'
          go_simp
          with_reducible rfl
        rotate_left
        · simp only [Act.put, List.setIfInBounds_toArray, List.set_cons_zero, List.set_cons_succ, i64_w, i32_w]
          rfl
        refine pure_ (i := 1) (N := some 18) (v := ?_) (a' := ?_) #[true, true, false, false, false, false, false, false, false, false, false, false, false, false] rfl rfl (by kernel_rfl) (fun _ _ _ h => h) (Or.inl ⟨by rfl, ?_⟩) ?_ ?_
        rotate_left
        · intro w'
          go_simp
          with_reducible rfl
        rotate_left
        · simp only [Act.put, List.setIfInBounds_toArray, List.set_cons_zero, List.set_cons_succ, i64_w, i32_w]
          rfl
        refine pure_ (i := 2) (N := some 19) (v := ?_) (a' := ?_) #[true, true, true, false, false, false, false, false, false, false, false, false, false, false] rfl rfl (by kernel_rfl) (fun _ _ _ h => h) (Or.inl ⟨by rfl, ?_⟩) ?_ ?_
        rotate_left
        · intro w'
          go_simp
          with_reducible rfl
        rotate_left
        · simp only [Act.put, List.setIfInBounds_toArray, List.set_cons_zero, List.set_cons_succ, i64_w, i32_w]
          rfl
        refine pure_ (i := 3) (N := some 20) (v := ?_) (a' := ?_) #[true, true, true, true, false, false, false, false, false, false, false, false, false, false] rfl rfl (by kernel_rfl) (fun _ _ _ h => h) (Or.inl ⟨by rfl, ?_⟩) ?_ ?_
        rotate_left
        · intro w'
          go_simp
          with_reducible rfl
        rotate_left
        · simp only [Act.put, List.setIfInBounds_toArray, List.set_cons_zero, List.set_cons_succ, i64_w, i32_w]
          rfl
        refine pure_ (i := 4) (N := some 21) (v := ?_) (a' := ?_) #[true, true, true, true, true, false, false, false, false, false, false, false, false, false] rfl rfl (by kernel_rfl) (fun _ _ _ h => h) (Or.inl ⟨by rfl, ?_⟩) ?_ ?_
        rotate_left
        · intro w'
          go_simp
          with_reducible rfl
        rotate_left
        · simp only [Act.put, List.setIfInBounds_toArray, List.set_cons_zero, List.set_cons_succ, i64_w, i32_w]
          rfl
        refine pure_ (i := 5) (N := some 22) (v := ?_) (a' := ?_) #[true, true, true, true, true, true, false, false, false, false, false, false, false, false] rfl rfl (by kernel_rfl) (fun _ _ _ h => h) (Or.inl ⟨by rfl, ?_⟩) ?_ ?_
        rotate_left
        · intro w'
          go_simp
          with_reducible rfl
        rotate_left
        · simp only [Act.put, List.setIfInBounds_toArray, List.set_cons_zero, List.set_cons_succ, i64_w, i32_w]
          rfl
        refine pure_ (i := 6) (N := some 23) (v := ?_) (a' := ?_) #[true, true, true, true, true, true, true, false, false, false, false, false, false, false] rfl rfl (by kernel_rfl) (fun _ _ _ h => h) (Or.inl ⟨by rfl, ?_⟩) ?_ ?_
        rotate_left
        · intro w'
          go_simp
          with_reducible rfl
        rotate_left
        · simp only [Act.put, List.setIfInBounds_toArray, List.set_cons_zero, List.set_cons_succ, i64_w, i32_w]
          rfl
        refine pure_ (i := 8) (N := some 25) (v := ?_) (a' := ?_) #[true, true, true, true, true, true, true, false, true, false, false, false, false, false] rfl rfl (by kernel_rfl) (fun _ _ _ h => h) (Or.inl ⟨by rfl, ?_⟩) ?_ ?_
        rotate_left
        · intro w'
          go_simp
          with_reducible rfl
        rotate_left
        · simp only [Act.put, List.setIfInBounds_toArray, List.set_cons_zero, List.set_cons_succ, i64_w, i32_w]
          rfl
        refine pure_ (i := 10) (N := some 27) (v := ?_) (a' := ?_) #[true, true, true, true, true, true, true, false, true, false, true, false, false, false] rfl rfl (by kernel_rfl) (fun _ _ _ h => h) (Or.inl ⟨by rfl, ?_⟩) ?_ ?_
        rotate_left
        · intro w'
          go_simp
          with_reducible rfl
        rotate_left
        · simp only [Act.put, List.setIfInBounds_toArray, List.set_cons_zero, List.set_cons_succ, i64_w, i32_w]
          rfl
        refine pure_ (i := 11) (N := some 28) (v := ?_) (a' := ?_) #[true, true, true, true, true, true, true, false, true, false, true, true, false, false] rfl rfl (by kernel_rfl) (fun _ _ _ h => h) (Or.inl ⟨by rfl, ?_⟩) ?_ ?_
        rotate_left
        · intro w'
          go_simp
          with_reducible rfl
        rotate_left
        · simp only [Act.put, List.setIfInBounds_toArray, List.set_cons_zero, List.set_cons_succ, i64_w, i32_w]
          rfl
        refine take_ (i := 7) (N := some 24) (v := ?_) (a' := ?_) #[true, true, true, true, true, true, true, true, true, false, true, true, false, false] rfl rfl (by kernel_rfl) (fun _ _ _ h => h) (Or.inl ⟨by rfl, ?_⟩) hHeld ?_ ?_
        rotate_left
        · rintro w' ⟨s0, s1, s2, s3, s4, s5⟩
          go_simp
          with_reducible rfl
        rotate_left
        · simp only [Act.put, List.setIfInBounds_toArray, List.set_cons_zero, List.set_cons_succ, i64_w, i32_w]
          rfl
        refine one_ (i := 9) (N := some 26) #[true, true, true, true, true, true, true, true, true, true, true, true, false, false] rfl rfl (by kernel_rfl) (by decide) (fun K hK => ?_)
        refine goes_ Try.func88 (by kernel_rfl) rfl #[.agg #[.slice A n c, .slice B m b, .bool cl], .int .i64 (-1)] (by rfl) rfl rfl (by first | rfl | (simp; done) | (simp only [List.map_toArray, List.map_cons, List.map_nil]; rfl)) ?_
        with_reducible refine (HAF.out _ (by repeat (first | exact HC0.out | (with_reducible refine Kd.C_drew ?_) | (with_reducible refine Kd.C_drewN ?_ _))) (by repeat (first | exact HC1.out | (with_reducible refine Kd.C_drew ?_) | (with_reducible refine Kd.C_drewN ?_ _)))).mono ?_
        rintro e w3 ⟨v, rfl, hR, hb⟩
        refine ⟨_, rfl, ?_⟩
        obtain ⟨A3, c3, e3⟩ := Kd.R_slice hR
        subst e3
        refine hK.out _ _ ⟨(hb.cell (p := ⟨g, 3 + i * 3, none⟩) HGL.out).trans hHeld.1, (hb.cell (p := ⟨g, 3 + i * 3 + 1, none⟩) HGL.out).trans hHeld.2.1, (hb.cell (p := ⟨g, 3 + i * 3 + 2, none⟩) HGL.out).trans hHeld.2.2.1, (hb.frozen (p := ⟨g, 3 + i * 3, none⟩) HGL.out).trans hHeld.2.2.2.1, (hb.frozen (p := ⟨g, 3 + i * 3 + 1, none⟩) HGL.out).trans hHeld.2.2.2.2.1, (hb.frozen (p := ⟨g, 3 + i * 3 + 2, none⟩) HGL.out).trans hHeld.2.2.2.2.2⟩ (fun hHeld => ?_)
        clear hK K
        refine norm_ (a' := ?_) ?_ ?_
        rotate_left
        · show Act.put _ (some 26) _ = _
          simp only [Act.put, List.setIfInBounds_toArray, List.set_cons_zero, List.set_cons_succ, i64_w, i32_w]
          rfl
        refine pure_ (i := 12) (N := some 29) (v := ?_) (a' := ?_) #[true, true, true, true, true, true, true, true, true, true, true, true, true, false] rfl rfl (by kernel_rfl) (fun _ _ _ h => h) (Or.inl ⟨by rfl, ?_⟩) ?_ ?_
        rotate_left
        · intro w'
          go_simp
          with_reducible rfl
        rotate_left
        · simp only [Act.put, List.setIfInBounds_toArray, List.set_cons_zero, List.set_cons_succ, i64_w, i32_w]
          rfl
        refine last_ (i := 13) (N := none) #[true, true, true, true, true, true, true, true, true, true, true, true, true, true] rfl rfl (by kernel_rfl) (by decide) (fun K hK => ?_)
        obtain ⟨hx0, hx1, hx2, hy0, hy1, hy2⟩ := hHeld
        refine skip_ (w1 := ?_) (by rfl) rfl ?_ ?_
        rotate_left
        · go_simp
          rfl
        refine hK.out _ _ ?_
        clear hK K
        refine done_ (by kernel_rfl) ?_
        have HB3 := Aside0.mk (below_step (below_drew1 (Below.refl wr.heap.size wr)) hb)
        have HR3 := Aside0.mk hR
        clear hb hR hHeld hs hl hc hfs hfl hfc
        go_wp2
        go_roundw
        case rel =>
          have hw3 : Wr g wr w3 := Wr.of_below HB3.out
          have hA3 := HA.out.same (HB3.out.block g HGL.out)
          have hRw := Rw.of_R HR3.out (G := G) (fun b hb => HG.out.1 b hb)
          have hA4 := hA3.set3 hlt (.slice A3 (afterB (fl s i) (-1)).length c3) (.slice A3 (afterB (fl s i) (-1)).length c3) false
          have hw4 := ((hw3.set (3 + i * 3) (.slice A3 (afterB (fl s i) (-1)).length c3)).set (3 + i * 3 + 1) (.slice A3 (afterB (fl s i) (-1)).length c3)).set (3 + i * 3 + 2) (.bool false)
          have hw43 := (((Wr.refl g w3).set (3 + i * 3) (.slice A3 (afterB (fl s i) (-1)).length c3)).set (3 + i * 3 + 1) (.slice A3 (afterB (fl s i) (-1)).length c3)).set (3 + i * 3 + 2) (.bool false)
          refine ⟨i + 1, by omega, by go_num, ⟨?_⟩, ⟨HW.out.trans hw4⟩⟩
          have hRw4 := hRw.wr hw43 HG.out.2
          exact ⟨fun b hb => Nat.lt_of_lt_of_le (HG.out.1 b hb) hw4.size, HG.out.2, _, hA4, (HRS.out.wr hw4 HG.out.2).file HA.out.1 hlt (f := ⟨afterB (fl s i) (-1), afterB (fl s i) (-1), false⟩) ⟨hRw4, hRw4, rfl⟩ rfl HST.out⟩
        case measure => simp [intOf]; omega
    · obtain rfl : i = 8 := by omega
      rw [show ((8 : Nat) : Int) = 8 from rfl]
      have HE := Aside0.mk (midFs_8 s keep HOK.out.len)
      obtain ⟨hG, hgg, d, hA, hR⟩ := H.out
      have hc0 := hA.c0
      have hc1 := hA.c1
      have hc2 := hA.c2
      have hc28 := hA.c28
      have hf0 := hA.frozen 0
      have hf1 := hA.frozen 1
      have hf2 := hA.frozen 2
      have hf28 := hA.frozen 28
      obtain ⟨A, c, hv, _, _⟩ := hR.2.2.1.slice
      rw [hv] at hc2
      have HA := Aside0.mk hA
      have HR := Aside0.mk hR
      clear hA hR hlt hi hv hG hgg
      go_wp2
      first | go_end0 | ((try simp only [Exit.inBlock, Exit.then]); refine bodyPost_ret (results_none rfl _ _ _) rfl ?_)
      have hA4 := (((HA.out.set28 true).set0 false).set1 0).set2 (.slice none 0 0)
      have hw4 := (((((Wr.refl g wr).set 28 (.bool true)).set 0 (.bool false)).set 1 (.int .i64 0)).set 2 (.slice none 0 0))
      refine ⟨rfl, ?_, HW.out.trans hw4⟩
      have hr := HR.out.wr hw4 H.out.gg
      refine ⟨fun b hb => Nat.lt_of_lt_of_le (H.out.lt b hb) hw4.size, H.out.gg, _, hA4, rfl, rfl, Rw.nil _ _ _, hr.2.2.2.1, rfl, ?_, ?_⟩
      · show (fallFs keep 0 s.fs).length = 8
        rw [← HE.out]; exact midFs_len _ _ _
      · intro j hj
        have h7 := hr.2.2.2.2.2.2 j hj
        have e : fl (fallP s keep) j = fl (midS s keep 8) j := by
          unfold fl fallP midS
          simp only
          rw [← HE.out]
        rw [e]
        exact h7
end Go.Proofs.Ytehjbhnlbjbhfaa.Dk
-- DkF
namespace Go.Proofs.Ytehjbhnlbjbhfaa.Dk
open Go Go.RowKit Go.Proofs.YtehjbhnlbjbhfaaW.PrintWords Go.Proofs.YtehjbhnlbjbhfaaW.PrintLast Go.Proofs.YtehjbhnlbjbhfaaW.PrintMore
open Go.Proofs.Ytehjbhnlbjbhfaa.PDiskBegins
set_option linter.unusedVariables false
set_option linter.unusedSimpArgs false
theorem f_set (d : DV) (x : FV) {i : Nat} (hd : d.fs.length = 8) (hi : i < 8) : (DV.f { d with fs := d.fs.set i x } i) = x := by
  unfold DV.f
  rw [List.getD_eq_getElem?_getD, List.getElem?_set_self (by rw [hd]; exact hi)]; rfl
theorem At.setSC {W : World} {g : Nat} {d : DV} (h : At W g d) {i : Nat} (hi : i < 8) (v : Value) (b : Bool) : At ((W.setCell ⟨g, 3 + i * 3, none⟩ v).setCell ⟨g, 3 + i * 3 + 2, none⟩ (.bool b)) g { d with fs := d.fs.set i ⟨v, (d.f i).lv, b⟩ } := by
  have h3 := (h.setS hi v).setC hi b
  rw [f_set d _ h.1 hi] at h3
  simpa only [List.set_set] using h3
theorem At.setLC {W : World} {g : Nat} {d : DV} (h : At W g d) {i : Nat} (hi : i < 8) (v : Value) (b : Bool) : At ((W.setCell ⟨g, 3 + i * 3 + 1, none⟩ v).setCell ⟨g, 3 + i * 3 + 2, none⟩ (.bool b)) g { d with fs := d.fs.set i ⟨(d.f i).sv, v, b⟩ } := by
  have h3 := (h.setL hi v).setC hi b
  rw [f_set d _ h.1 hi] at h3
  simpa only [List.set_set] using h3
theorem At.drew {W : World} {g : Nat} {d : DV} (h : At W g d) : At W.drew g d := h
theorem Wr.drew {g : Nat} {w w1 : World} (h : Wr g w w1) : Wr g w w1.drew := ⟨h.os, h.tape, h.output, h.size, h.block⟩
theorem IsD.file {G : Nat → Prop} {g : Nat} {W W' : World} {d : DV} {s : DS} {i : Nat} {v : FV} {f : Fl} (h : IsD G W g s) (hA : d.fs.length = 8) (hR : Rows G W d s) (hi : i < 8) (hA' : At W' g { d with fs := d.fs.set i v }) (hw : Wr g W W') (hf : FR G W' v f) : IsD G W' g (setF s i f) :=
  ⟨fun b hb => Nat.lt_of_lt_of_le (h.lt b hb) hw.size, h.gg, _, hA', (hR.wr hw h.gg).file hA hi hf rfl rfl⟩
set_option maxHeartbeats 8000000 in
set_option maxRecDepth 100000 in
theorem c47_calls (G : Nat → Prop) (g : Nat) (s : DS) (i n : Nat) (b1 b2 : Nat) (w : World) (h : IsD G w g s) (hi : i < 8) (h1 : w.cell? ⟨b1, 0, none⟩ = some (.pointer (some ⟨g, 0, none⟩))) (h2 : w.cell? ⟨b2, 0, none⟩ = some (.int .i64 (i : Int))) (n1 : b1 ≠ g) (n2 : b2 ≠ g) :
    Calls Try.prog 73 #[.int .i64 (n : Int), .pointer (some ⟨b1, 0, none⟩), .pointer (some ⟨b2, 0, none⟩)] w fun e w' => e = .returned (.tuple #[]) ∧ IsD G w' g (doneC i s n) ∧ Wr g w w' := by
  have H := Aside0.mk h
  obtain ⟨_, _, d, hA, hR⟩ := h
  have HA := Aside0.mk hA
  have HR := Aside0.mk hR
  by_cases c : n = 1
  · have HD := Aside0.mk (show doneC i s n = setF s i ⟨[], (fl s i).lasts, true⟩ by unfold doneC; rw [if_pos c])
    rw [HD.out]
    subst c
    rw [show ((1 : Nat) : Int) = 1 from rfl]
    obtain ⟨A, cc, hv, _, _⟩ := (hR.2.2.2.2.2.2 i hi).1.slice
    obtain ⟨B, bb, hx, _, _⟩ := (hR.2.2.2.2.2.2 i hi).2.1.slice
    have HV := Aside0.mk hv
    have hs := hA.sv hi
    have hl := hA.lv hi
    rw [hv] at hs
    rw [hx] at hl
    have hc := hA.cl hi
    have hfs := hA.frozen (3 + i * 3)
    have hfl := hA.frozen (3 + i * 3 + 1)
    have hfc := hA.frozen (3 + i * 3 + 2)
    clear hA hR hv hx
    go_enter Try.func73, Try.ntmps73
    go_wp2
    go_region
    first | go_end0 | ((try simp only [Exit.inBlock, Exit.then]); refine bodyPost_ret (results_none rfl _ _ _) rfl ?_)
    have hw := (((Wr.refl g w).set (3 + i * 3) (.slice none 0 0)).set (3 + i * 3 + 2) (.bool true)).drew
    refine ⟨rfl, H.out.file HA.out.1 HR.out hi (HA.out.setSC hi (.slice none 0 0) true).drew hw ?_, hw⟩
    exact ⟨Rw.nil _ _ _, (HR.out.2.2.2.2.2.2 i hi).2.1.wr hw H.out.gg, rfl⟩
  · have HD := Aside0.mk (show doneC i s n = s by unfold doneC; rw [if_neg c])
    rw [HD.out]
    have c1 : ((n : Int) == (1 : Int)) = false := by simp only [beq_eq_false_iff_ne]; omega
    have c2 : decide (n = 1) = false := decide_eq_false c
    clear c hA hR
    go_enter Try.func73, Try.ntmps73
    go_wp2
    first | go_end0 | ((try simp only [Exit.inBlock, Exit.then]); refine bodyPost_ret (results_none rfl _ _ _) rfl ?_)
    exact ⟨rfl, H.out, Wr.refl _ _⟩
set_option maxHeartbeats 8000000 in
set_option maxRecDepth 100000 in
theorem c44_calls (G : Nat → Prop) (g : Nat) (s : DS) (i n : Nat) (b1 b2 : Nat) (w : World) (h : IsD G w g s) (hi : i < 8) (h1 : w.cell? ⟨b1, 0, none⟩ = some (.pointer (some ⟨g, 0, none⟩))) (h2 : w.cell? ⟨b2, 0, none⟩ = some (.int .i64 (i : Int))) (n1 : b1 ≠ g) (n2 : b2 ≠ g) :
    Calls Try.prog 72 #[.int .i64 (n : Int), .pointer (some ⟨b1, 0, none⟩), .pointer (some ⟨b2, 0, none⟩)] w fun e w' => e = .returned (.tuple #[]) ∧ IsD G w' g (doneY i s n) ∧ Wr g w w' := by
  have H := Aside0.mk h
  obtain ⟨_, _, d, hA, hR⟩ := h
  have HA := Aside0.mk hA
  have HR := Aside0.mk hR
  by_cases c : n = 1
  · have HD := Aside0.mk (show doneY i s n = setF s i ⟨(fl s i).seen, (fl s i).seen, false⟩ by unfold doneY; rw [if_pos c])
    rw [HD.out]
    subst c
    rw [show ((1 : Nat) : Int) = 1 from rfl]
    obtain ⟨A, cc, hv, _, _⟩ := (hR.2.2.2.2.2.2 i hi).1.slice
    obtain ⟨B, bb, hx, _, _⟩ := (hR.2.2.2.2.2.2 i hi).2.1.slice
    have HV := Aside0.mk hv
    have hs := hA.sv hi
    have hl := hA.lv hi
    rw [hv] at hs
    rw [hx] at hl
    have hc := hA.cl hi
    have hfs := hA.frozen (3 + i * 3)
    have hfl := hA.frozen (3 + i * 3 + 1)
    have hfc := hA.frozen (3 + i * 3 + 2)
    clear hA hR hv hx
    go_enter Try.func72, Try.ntmps72
    go_wp2
    go_region
    first | go_end0 | ((try simp only [Exit.inBlock, Exit.then]); refine bodyPost_ret (results_none rfl _ _ _) rfl ?_)
    have hw := (((Wr.refl g w).set (3 + i * 3 + 1) (.slice A (fl s i).seen.length cc)).set (3 + i * 3 + 2) (.bool false)).drew
    refine ⟨rfl, H.out.file HA.out.1 HR.out hi (HA.out.setLC hi (.slice A (fl s i).seen.length cc) false).drew hw ?_, hw⟩
    exact ⟨(HR.out.2.2.2.2.2.2 i hi).1.wr hw H.out.gg, by have h9 := (HR.out.2.2.2.2.2.2 i hi).1; rw [HV.out] at h9; exact h9.wr hw H.out.gg, rfl⟩
  · have HD := Aside0.mk (show doneY i s n = s by unfold doneY; rw [if_neg c])
    rw [HD.out]
    have c1 : ((n : Int) == (1 : Int)) = false := by simp only [beq_eq_false_iff_ne]; omega
    have c2 : decide (n = 1) = false := decide_eq_false c
    clear c hA hR
    go_enter Try.func72, Try.ntmps72
    go_wp2
    first | go_end0 | ((try simp only [Exit.inBlock, Exit.then]); refine bodyPost_ret (results_none rfl _ _ _) rfl ?_)
    exact ⟨rfl, H.out, Wr.refl _ _⟩
end Go.Proofs.Ytehjbhnlbjbhfaa.Dk
-- DkG
namespace Go.Proofs.Ytehjbhnlbjbhfaa.Dk
open Go Go.RowKit Go.Proofs.YtehjbhnlbjbhfaaW.PrintWords Go.Proofs.YtehjbhnlbjbhfaaW.PrintLast Go.Proofs.YtehjbhnlbjbhfaaW.PrintMore
open Go.Proofs.Ytehjbhnlbjbhfaa.PDiskBegins
set_option linter.unusedVariables false
set_option linter.unusedSimpArgs false
theorem Rw.one {G : Nat → Prop} {g : Nat} {k : IntKind} {W : World} {v : Value} {xs : List Int} (h : Rw G k W v xs) (hg : G g) : Rw (fun b => b = g) k W v xs := h.grow (fun b _ e => e ▸ hg)
theorem Wr.drew1 {g : Nat} {w w1 : World} (h : Wr g w w1) (n : Nat) : Wr g w (w1.drewN n) := ⟨h.os, h.tape, h.output, h.size, h.block⟩
set_option maxHeartbeats 8000000 in
set_option maxRecDepth 100000 in
theorem act47_calls (G : Nat → Prop) (g : Nat) (s : DS) (n : Nat) (done : DS → Nat → DS) (p1 p2 : Value) (w : World) (h : IsD G w g s) (hok : Ok s) (hn : n < 1000000000)
    (hdo : ∀ (s' : DS) (m : Nat) (w' : World), IsD G w' g s' → s'.fs = s.fs → Wr g w w' → m ≤ n → Calls Try.prog 73 #[.int .i64 (m : Int), p1, p2] w' fun e w'' => e = .returned (.tuple #[]) ∧ IsD G w'' g (done s' m) ∧ Wr g w' w'')
    (hok2 : Ok (done (burnS s n) (burnN s n))) (hkeep : (done (burnS s n) (burnN s n)).keep = s.keep) (hkr : ∀ x ∈ s.keep, -9223372036854775808 ≤ x ∧ x ≤ 9223372036854775807) :
    Calls Try.prog 64 #[.pointer (some ⟨g, 0, none⟩), .int .i64 (n : Int), .func (.func 73) #[] #[p1, p2]] w fun e w' => e = .returned (.int .i64 (actP s n done).2) ∧ IsD G w' g (actP s n done).1 ∧ Wr g w w' := by
  have H := Aside0.mk h
  have HOK := Aside0.mk hok
  have HDO := Aside0.mk hdo
  have HOK2 := Aside0.mk hok2
  have HKE := Aside0.mk hkeep
  have HKR := Aside0.mk hkr
  have HN := Aside0.mk hn
  obtain ⟨_, _, d, hA, hR⟩ := h
  have hc0 := hA.c0
  have hc1 := hA.c1
  rw [hR.1] at hc0
  rw [hR.2.1] at hc1
  have HB := Aside0.mk (burn_calls G g s n w H.out hok hn)
  have HML := Aside0.mk (show burnN s n ≤ n by
    unfold burnN
    split
    · rename_i c; have := hok.fuse c.1; omega
    · exact Nat.le_refl _)
  clear hA hR hok hdo hok2 hkeep hkr hn
  by_cases cs : s.set = true ∧ s.left ≤ (n : Int)
  · have HAP := Aside0.mk (show actP s n done = (fallP (done (burnS s n) (burnN s n)) s.keep, 50) by unfold actP; rw [if_pos (by unfold struckP; rw [cs.1, decide_eq_true cs.2]; rfl)])
    rw [HAP.out]
    rw [cs.1] at hc0
    have d1 : decide (s.left ≤ (n : Int)) = true := decide_eq_true cs.2
    clear cs
    go_enter Try.func64, Try.ntmps64
    go_wp2_with (fail)
    refine (HB.out).mono ?_
    rintro e w1 ⟨rfl, hI, hW⟩
    have HI := Aside0.mk hI
    have HW := Aside0.mk hW
    clear hI hW hc0 hc1
    go_wp2_with (fail)
    refine (HDO.out (burnS s n) (burnN s n) _ HI.out (by unfold burnS; split <;> rfl) HW.out HML.out).mono ?_
    rintro e w2 ⟨rfl, hI, hW⟩
    have HI2 := Aside0.mk hI
    have HW2 := Aside0.mk (HW.out.trans hW)
    clear hI hW HI HW
    obtain ⟨_, _, d2, hA2, hR2⟩ := HI2.out
    obtain ⟨A, c, hv, _, _⟩ := hR2.2.2.1.slice
    have hc2 := hA2.c2
    have HKV := Aside0.mk (hR2.2.2.1.one HI2.out.gg)
    rw [hv] at hc2 HKV
    rw [HKE.out] at hc2 HKV
    clear hA2 hR2 hv
    go_wp2_with (fail)
    refine (fall_calls G g _ _ s.keep _ HI2.out HOK2.out HKV.out HKR.out).mono ?_
    rintro e w3 ⟨rfl, hI, hW⟩
    have HI3 := Aside0.mk hI
    have HW3 := Aside0.mk (HW2.out.trans hW)
    clear hI hW hc2
    go_wp2
    go_ret
    exact ⟨rfl, HI3.out, HW3.out⟩
  · have HAP := Aside0.mk (show actP s n done = (done (burnS s n) (burnN s n), 0) by
      unfold actP
      rw [if_neg (by
        unfold struckP
        intro h
        rw [Bool.and_eq_true, decide_eq_true_eq] at h
        exact cs h)])
    rw [HAP.out]
    by_cases c1 : s.set = true
    case' pos =>
      rw [c1] at hc0
      have d1 : decide (s.left ≤ (n : Int)) = false := decide_eq_false (fun h => cs ⟨c1, h⟩)
    case' neg =>
      have c1' : s.set = false := by simpa using c1
      rw [c1'] at hc0
      clear c1'
    all_goals
      clear cs c1
      go_enter Try.func64, Try.ntmps64
      go_wp2_with (fail)
      refine (HB.out).mono ?_
      rintro e w1 ⟨rfl, hI, hW⟩
      have HI := Aside0.mk hI
      have HW := Aside0.mk hW
      clear hI hW hc0 hc1
      go_wp2_with (fail)
      refine (HDO.out (burnS s n) (burnN s n) _ HI.out (by unfold burnS; split <;> rfl) HW.out HML.out).mono ?_
      rintro e w2 ⟨rfl, hI, hW⟩
      have HI2 := Aside0.mk hI
      have HW2 := Aside0.mk (HW.out.trans hW)
      clear hI hW HI HW
      go_wp2
      go_ret
      exact ⟨rfl, HI2.out, HW2.out⟩
set_option maxHeartbeats 8000000 in
set_option maxRecDepth 100000 in
theorem act44_calls (G : Nat → Prop) (g : Nat) (s : DS) (n : Nat) (done : DS → Nat → DS) (p1 p2 : Value) (w : World) (h : IsD G w g s) (hok : Ok s) (hn : n < 1000000000)
    (hdo : ∀ (s' : DS) (m : Nat) (w' : World), IsD G w' g s' → s'.fs = s.fs → Wr g w w' → m ≤ n → Calls Try.prog 72 #[.int .i64 (m : Int), p1, p2] w' fun e w'' => e = .returned (.tuple #[]) ∧ IsD G w'' g (done s' m) ∧ Wr g w' w'')
    (hok2 : Ok (done (burnS s n) (burnN s n))) (hkeep : (done (burnS s n) (burnN s n)).keep = s.keep) (hkr : ∀ x ∈ s.keep, -9223372036854775808 ≤ x ∧ x ≤ 9223372036854775807) :
    Calls Try.prog 64 #[.pointer (some ⟨g, 0, none⟩), .int .i64 (n : Int), .func (.func 72) #[] #[p1, p2]] w fun e w' => e = .returned (.int .i64 (actP s n done).2) ∧ IsD G w' g (actP s n done).1 ∧ Wr g w w' := by
  have H := Aside0.mk h
  have HOK := Aside0.mk hok
  have HDO := Aside0.mk hdo
  have HOK2 := Aside0.mk hok2
  have HKE := Aside0.mk hkeep
  have HKR := Aside0.mk hkr
  have HN := Aside0.mk hn
  obtain ⟨_, _, d, hA, hR⟩ := h
  have hc0 := hA.c0
  have hc1 := hA.c1
  rw [hR.1] at hc0
  rw [hR.2.1] at hc1
  have HB := Aside0.mk (burn_calls G g s n w H.out hok hn)
  have HML := Aside0.mk (show burnN s n ≤ n by
    unfold burnN
    split
    · rename_i c; have := hok.fuse c.1; omega
    · exact Nat.le_refl _)
  clear hA hR hok hdo hok2 hkeep hkr hn
  by_cases cs : s.set = true ∧ s.left ≤ (n : Int)
  · have HAP := Aside0.mk (show actP s n done = (fallP (done (burnS s n) (burnN s n)) s.keep, 50) by unfold actP; rw [if_pos (by unfold struckP; rw [cs.1, decide_eq_true cs.2]; rfl)])
    rw [HAP.out]
    rw [cs.1] at hc0
    have d1 : decide (s.left ≤ (n : Int)) = true := decide_eq_true cs.2
    clear cs
    go_enter Try.func64, Try.ntmps64
    go_wp2_with (fail)
    refine (HB.out).mono ?_
    rintro e w1 ⟨rfl, hI, hW⟩
    have HI := Aside0.mk hI
    have HW := Aside0.mk hW
    clear hI hW hc0 hc1
    go_wp2_with (fail)
    refine (HDO.out (burnS s n) (burnN s n) _ HI.out (by unfold burnS; split <;> rfl) HW.out HML.out).mono ?_
    rintro e w2 ⟨rfl, hI, hW⟩
    have HI2 := Aside0.mk hI
    have HW2 := Aside0.mk (HW.out.trans hW)
    clear hI hW HI HW
    obtain ⟨_, _, d2, hA2, hR2⟩ := HI2.out
    obtain ⟨A, c, hv, _, _⟩ := hR2.2.2.1.slice
    have hc2 := hA2.c2
    have HKV := Aside0.mk (hR2.2.2.1.one HI2.out.gg)
    rw [hv] at hc2 HKV
    rw [HKE.out] at hc2 HKV
    clear hA2 hR2 hv
    go_wp2_with (fail)
    refine (fall_calls G g _ _ s.keep _ HI2.out HOK2.out HKV.out HKR.out).mono ?_
    rintro e w3 ⟨rfl, hI, hW⟩
    have HI3 := Aside0.mk hI
    have HW3 := Aside0.mk (HW2.out.trans hW)
    clear hI hW hc2
    go_wp2
    go_ret
    exact ⟨rfl, HI3.out, HW3.out⟩
  · have HAP := Aside0.mk (show actP s n done = (done (burnS s n) (burnN s n), 0) by
      unfold actP
      rw [if_neg (by
        unfold struckP
        intro h
        rw [Bool.and_eq_true, decide_eq_true_eq] at h
        exact cs h)])
    rw [HAP.out]
    by_cases c1 : s.set = true
    case' pos =>
      rw [c1] at hc0
      have d1 : decide (s.left ≤ (n : Int)) = false := decide_eq_false (fun h => cs ⟨c1, h⟩)
    case' neg =>
      have c1' : s.set = false := by simpa using c1
      rw [c1'] at hc0
      clear c1'
    all_goals
      clear cs c1
      go_enter Try.func64, Try.ntmps64
      go_wp2_with (fail)
      refine (HB.out).mono ?_
      rintro e w1 ⟨rfl, hI, hW⟩
      have HI := Aside0.mk hI
      have HW := Aside0.mk hW
      clear hI hW hc0 hc1
      go_wp2_with (fail)
      refine (HDO.out (burnS s n) (burnN s n) _ HI.out (by unfold burnS; split <;> rfl) HW.out HML.out).mono ?_
      rintro e w2 ⟨rfl, hI, hW⟩
      have HI2 := Aside0.mk hI
      have HW2 := Aside0.mk (HW.out.trans hW)
      clear hI hW HI HW
      go_wp2
      go_ret
      exact ⟨rfl, HI2.out, HW2.out⟩
set_option maxHeartbeats 8000000 in
set_option maxRecDepth 100000 in
theorem act46_calls (G : Nat → Prop) (g : Nat) (s : DS) (n : Nat) (done : DS → Nat → DS) (p1 p2 p3 : Value) (w : World) (h : IsD G w g s) (hok : Ok s) (hn : n < 1000000000)
    (hdo : ∀ (s' : DS) (m : Nat) (w' : World), IsD G w' g s' → s'.fs = s.fs → Wr g w w' → m ≤ n → Calls Try.prog 65 #[.int .i64 (m : Int), p1, p2, p3] w' fun e w'' => e = .returned (.tuple #[]) ∧ IsD G w'' g (done s' m) ∧ Wr g w' w'')
    (hok2 : Ok (done (burnS s n) (burnN s n))) (hkeep : (done (burnS s n) (burnN s n)).keep = s.keep) (hkr : ∀ x ∈ s.keep, -9223372036854775808 ≤ x ∧ x ≤ 9223372036854775807) :
    Calls Try.prog 64 #[.pointer (some ⟨g, 0, none⟩), .int .i64 (n : Int), .func (.func 65) #[] #[p1, p2, p3]] w fun e w' => e = .returned (.int .i64 (actP s n done).2) ∧ IsD G w' g (actP s n done).1 ∧ Wr g w w' := by
  have H := Aside0.mk h
  have HOK := Aside0.mk hok
  have HDO := Aside0.mk hdo
  have HOK2 := Aside0.mk hok2
  have HKE := Aside0.mk hkeep
  have HKR := Aside0.mk hkr
  have HN := Aside0.mk hn
  obtain ⟨_, _, d, hA, hR⟩ := h
  have hc0 := hA.c0
  have hc1 := hA.c1
  rw [hR.1] at hc0
  rw [hR.2.1] at hc1
  have HB := Aside0.mk (burn_calls G g s n w H.out hok hn)
  have HML := Aside0.mk (show burnN s n ≤ n by
    unfold burnN
    split
    · rename_i c; have := hok.fuse c.1; omega
    · exact Nat.le_refl _)
  clear hA hR hok hdo hok2 hkeep hkr hn
  by_cases cs : s.set = true ∧ s.left ≤ (n : Int)
  · have HAP := Aside0.mk (show actP s n done = (fallP (done (burnS s n) (burnN s n)) s.keep, 50) by unfold actP; rw [if_pos (by unfold struckP; rw [cs.1, decide_eq_true cs.2]; rfl)])
    rw [HAP.out]
    rw [cs.1] at hc0
    have d1 : decide (s.left ≤ (n : Int)) = true := decide_eq_true cs.2
    clear cs
    go_enter Try.func64, Try.ntmps64
    go_wp2_with (fail)
    refine (HB.out).mono ?_
    rintro e w1 ⟨rfl, hI, hW⟩
    have HI := Aside0.mk hI
    have HW := Aside0.mk hW
    clear hI hW hc0 hc1
    go_wp2_with (fail)
    refine (HDO.out (burnS s n) (burnN s n) _ HI.out (by unfold burnS; split <;> rfl) HW.out HML.out).mono ?_
    rintro e w2 ⟨rfl, hI, hW⟩
    have HI2 := Aside0.mk hI
    have HW2 := Aside0.mk (HW.out.trans hW)
    clear hI hW HI HW
    obtain ⟨_, _, d2, hA2, hR2⟩ := HI2.out
    obtain ⟨A, c, hv, _, _⟩ := hR2.2.2.1.slice
    have hc2 := hA2.c2
    have HKV := Aside0.mk (hR2.2.2.1.one HI2.out.gg)
    rw [hv] at hc2 HKV
    rw [HKE.out] at hc2 HKV
    clear hA2 hR2 hv
    go_wp2_with (fail)
    refine (fall_calls G g _ _ s.keep _ HI2.out HOK2.out HKV.out HKR.out).mono ?_
    rintro e w3 ⟨rfl, hI, hW⟩
    have HI3 := Aside0.mk hI
    have HW3 := Aside0.mk (HW2.out.trans hW)
    clear hI hW hc2
    go_wp2
    go_ret
    exact ⟨rfl, HI3.out, HW3.out⟩
  · have HAP := Aside0.mk (show actP s n done = (done (burnS s n) (burnN s n), 0) by
      unfold actP
      rw [if_neg (by
        unfold struckP
        intro h
        rw [Bool.and_eq_true, decide_eq_true_eq] at h
        exact cs h)])
    rw [HAP.out]
    by_cases c1 : s.set = true
    case' pos =>
      rw [c1] at hc0
      have d1 : decide (s.left ≤ (n : Int)) = false := decide_eq_false (fun h => cs ⟨c1, h⟩)
    case' neg =>
      have c1' : s.set = false := by simpa using c1
      rw [c1'] at hc0
      clear c1'
    all_goals
      clear cs c1
      go_enter Try.func64, Try.ntmps64
      go_wp2_with (fail)
      refine (HB.out).mono ?_
      rintro e w1 ⟨rfl, hI, hW⟩
      have HI := Aside0.mk hI
      have HW := Aside0.mk hW
      clear hI hW hc0 hc1
      go_wp2_with (fail)
      refine (HDO.out (burnS s n) (burnN s n) _ HI.out (by unfold burnS; split <;> rfl) HW.out HML.out).mono ?_
      rintro e w2 ⟨rfl, hI, hW⟩
      have HI2 := Aside0.mk hI
      have HW2 := Aside0.mk (HW.out.trans hW)
      clear hI hW HI HW
      go_wp2
      go_ret
      exact ⟨rfl, HI2.out, HW2.out⟩
end Go.Proofs.Ytehjbhnlbjbhfaa.Dk
-- DkH
namespace Go.Proofs.Ytehjbhnlbjbhfaa.Dk
open Go Go.RowKit Go.Proofs.YtehjbhnlbjbhfaaW.PrintWords Go.Proofs.YtehjbhnlbjbhfaaW.PrintLast Go.Proofs.YtehjbhnlbjbhfaaW.PrintMore
open Go.Proofs.Ytehjbhnlbjbhfaa.PDiskBegins
set_option linter.unusedVariables false
set_option linter.unusedSimpArgs false
theorem with_w {P : World → Prop} (S : World → Prop) {W : World} (h : S W) (k : ∀ w', S w' → P w') : P W := k W h
set_option maxHeartbeats 8000000 in
set_option maxRecDepth 100000 in
theorem c46_calls (G : Nat → Prop) (g : Nat) (s : DS) (i n : Nat) (bs : List Int) (B : Option Addr) (cb : Nat) (b1 b2 b3 : Nat) (w : World) (h : IsD G w g s) (hi : i < 8) (hsl : (fl s i).seen.length ≤ 4194304) (h1 : w.cell? ⟨b1, 0, none⟩ = some (.pointer (some ⟨g, 0, none⟩))) (h2 : w.cell? ⟨b2, 0, none⟩ = some (.int .i64 (i : Int))) (h3 : w.cell? ⟨b3, 0, none⟩ = some (.slice B bs.length cb))
    (hB : (Kd.int .u8).C w B bs.length bs) (hcb : bs.length ≤ cb) (hn : n ≤ bs.length) (hbl : bs.length < 1000000000) :
    Calls Try.prog 65 #[.int .i64 (n : Int), .pointer (some ⟨b1, 0, none⟩), .pointer (some ⟨b2, 0, none⟩), .pointer (some ⟨b3, 0, none⟩)] w fun e w' => e = .returned (.tuple #[]) ∧ IsD G w' g (doneA i bs s n) ∧ Wr g w w' := by
  have H := Aside0.mk h
  obtain ⟨_, _, d, hA, hR⟩ := h
  have HA := Aside0.mk hA
  have HR := Aside0.mk hR
  obtain ⟨A, cc, hv, hvc, hC0⟩ := (hR.2.2.2.2.2.2 i hi).1.slice
  have HV := Aside0.mk hv
  have hs := hA.sv hi
  rw [hv] at hs
  have hfs := hA.frozen (3 + i * 3)
  have HGL := Aside0.mk hA.lt
  have HG3 := Aside0.mk (World.block_lt_of_cell? w _ h3)
  have HC0 := Aside0.mk hC0
  have HCC := Aside0.mk hvc
  have HSL := Aside0.mk (show (fl s i).seen.length < 140737488355328 by omega)
  obtain ⟨i0, hi0, _, hz1, _⟩ := info_parts info5
  have HCUT := cut_to (P := Try.prog) 32 5 .i64 Try.underlying32 hi0 B bs.length cb (n : Int) (by omega) (by omega) hcb
  rw [Int.toNat_natCast] at HCUT
  have hyl : (bs.take n).length = n := by rw [List.length_take]; exact Nat.min_eq_left hn
  have HCY := Aside0.mk (Kd.C_take (m := n) hB hn)
  have HY := Aside0.mk (show doneA i bs s n = setF s i ⟨(fl s i).seen ++ bs.take n, (fl s i).lasts, (fl s i).cl⟩ from rfl)
  rw [HY.out]
  have HLY := Aside0.mk (show ((fl s i).seen.length + (bs.take n).length) * 1 ≤ 140737488355328 by omega)
  generalize hy : bs.take n = y at HCY HY HLY hyl
  rw [← hyl] at HCUT
  subst hyl
  clear hA hR hv hvc hC0 hB hcb hn hbl hi0 hz1 hsl
  go_enter Try.func65, Try.ntmps65
  go_wp2
  go_quiet (fail)
  go_wp2
  refine with_w (fun w' => At w' g d ∧ Rows G w' d s ∧ Wr g w w' ∧ w'.cell? ⟨b3, 0, none⟩ = some (.slice B bs.length cb) ∧ (Kd.int .u8).C w' A (fl s i).seen.length (fl s i).seen ∧ (Kd.int .u8).C w' B y.length y) ⟨HA.out, HR.out.wr ((Wr.refl g w).drew1 nq) H.out.gg, (Wr.refl g w).drew1 nq, h3, Kd.C_drewN HC0.out nq, Kd.C_drewN HCY.out nq⟩ ?_
  clear hs hfs h1 h2 h3 HC0 HCY HA HR HGL HG3
  rintro wr ⟨hA, hR, hW, hbx, hC0, hCY⟩
  have HA := Aside0.mk hA
  have HR := Aside0.mk hR
  have HW := Aside0.mk hW
  have HC0 := Aside0.mk hC0
  have HCY := Aside0.mk hCY
  have hs := hA.sv hi
  obtain ⟨A', cc', hv, _, _⟩ := (hR.2.2.2.2.2.2 i hi).1.slice
  rw [HV.out] at hs
  have hfs := hA.frozen (3 + i * 3)
  have HGL := Aside0.mk hA.lt
  have HG3 := Aside0.mk (World.block_lt_of_cell? wr _ hbx)
  have HBB := Aside0.mk (Below.refl wr.drew.heap.size wr.drew)
  clear hA hR hW hC0 hCY hv
  refine start_ (n := 13) (S := fun w' => w'.cell? ⟨g, 3 + i * 3, none⟩ = some (.slice A (fl s i).seen.length cc) ∧ w'.frozen? ⟨g, 3 + i * 3, none⟩ = false ∧ w'.cell? ⟨b3, 0, none⟩ = some (.slice B bs.length cb)) (ds := [12]) #[false, false, false, false, false, false, false, false, false, false, false, false, false] (by kernel_rfl) rfl rfl ⟨hs, hfs, hbx⟩ (fun hHeld => ?_)
  refine pure_ (i := 0) (N := some 11) (v := ?_) (a' := ?_) #[true, false, false, false, false, false, false, false, false, false, false, false, false] rfl rfl (by kernel_rfl) (fun _ _ _ h => h) (Or.inl ⟨by rfl, ?_⟩) ?_ ?_
  rotate_left
  · intro w'
    go_simp
    with_reducible rfl
  rotate_left
  · simp only [Act.put, List.setIfInBounds_toArray, List.set_cons_zero, List.set_cons_succ, i64_w, i32_w]
    rfl
  refine pure_ (i := 1) (N := some 12) (v := ?_) (a' := ?_) #[true, true, false, false, false, false, false, false, false, false, false, false, false] rfl rfl (by kernel_rfl) (fun _ _ _ h => h) (Or.inl ⟨by rfl, ?_⟩) ?_ ?_
  rotate_left
  · intro w'
    go_simp
    with_reducible rfl
  rotate_left
  · simp only [Act.put, List.setIfInBounds_toArray, List.set_cons_zero, List.set_cons_succ, i64_w, i32_w]
    rfl
  refine pure_ (i := 2) (N := some 13) (v := ?_) (a' := ?_) #[true, true, true, false, false, false, false, false, false, false, false, false, false] rfl rfl (by kernel_rfl) (fun _ _ _ h => h) (Or.inl ⟨by rfl, ?_⟩) ?_ ?_
  rotate_left
  · intro w'
    go_simp
    with_reducible rfl
  rotate_left
  · simp only [Act.put, List.setIfInBounds_toArray, List.set_cons_zero, List.set_cons_succ, i64_w, i32_w]
    rfl
  refine pure_ (i := 3) (N := some 14) (v := ?_) (a' := ?_) #[true, true, true, true, false, false, false, false, false, false, false, false, false] rfl rfl (by kernel_rfl) (fun _ _ _ h => h) (Or.inl ⟨by rfl, ?_⟩) ?_ ?_
  rotate_left
  · intro w'
    go_simp
    with_reducible rfl
  rotate_left
  · simp only [Act.put, List.setIfInBounds_toArray, List.set_cons_zero, List.set_cons_succ, i64_w, i32_w]
    rfl
  refine pure_ (i := 7) (N := some 18) (v := ?_) (a' := ?_) #[true, true, true, true, false, false, false, true, false, false, false, false, false] rfl rfl (by kernel_rfl) (fun _ _ _ h => h) (Or.inl ⟨by rfl, ?_⟩) ?_ ?_
  rotate_left
  · intro w'
    go_simp
    with_reducible rfl
  rotate_left
  · simp only [Act.put, List.setIfInBounds_toArray, List.set_cons_zero, List.set_cons_succ, i64_w, i32_w]
    rfl
  refine take_ (i := 4) (N := some 15) (v := ?_) (a' := ?_) #[true, true, true, true, true, false, false, true, false, false, false, false, false] rfl rfl (by kernel_rfl) (fun _ _ _ h => h) (Or.inl ⟨by rfl, ?_⟩) hHeld ?_ ?_
  rotate_left
  · rintro w' ⟨s0, s1, s2⟩
    go_simp
    with_reducible rfl
  rotate_left
  · simp only [Act.put, List.setIfInBounds_toArray, List.set_cons_zero, List.set_cons_succ, i64_w, i32_w]
    rfl
  refine take_ (i := 6) (N := some 17) (v := ?_) (a' := ?_) #[true, true, true, true, true, false, true, true, false, false, false, false, false] rfl rfl (by kernel_rfl) (fun _ _ _ h => h) (Or.inl ⟨by rfl, ?_⟩) hHeld ?_ ?_
  rotate_left
  · rintro w' ⟨s0, s1, s2⟩
    go_simp
    with_reducible rfl
  rotate_left
  · simp only [Act.put, List.setIfInBounds_toArray, List.set_cons_zero, List.set_cons_succ, i64_w, i32_w]
    rfl
  refine pure_ (i := 8) (N := some 19) (v := ?_) (a' := ?_) #[true, true, true, true, true, false, true, true, true, false, false, false, false] rfl rfl (by kernel_rfl) (fun _ _ _ h => h) (Or.inl ⟨by rfl, ?_⟩) ?_ ?_
  rotate_left
  · intro w'
    go_simp
    with_reducible rfl
  rotate_left
  · simp only [Act.put, List.setIfInBounds_toArray, List.set_cons_zero, List.set_cons_succ, i64_w, i32_w]
    rfl
  refine one_ (i := 5) (N := some 16) #[true, true, true, true, true, true, true, true, true, false, false, false, false] rfl rfl (by kernel_rfl) (by decide) (fun K hK => ?_)
  refine goes_ Try.func14 (by kernel_rfl) rfl #[.slice A (fl s i).seen.length cc] (by rfl) rfl rfl (by first | rfl | (simp; done) | (simp only [List.map_toArray, List.map_cons, List.map_nil]; rfl)) ?_
  with_reducible refine (Clone_b A cc (fl s i).seen _ (by repeat (first | exact HC0.out | (with_reducible refine Kd.C_drew ?_) | (with_reducible refine Kd.C_drewN ?_ _))) HCC.out HSL.out).mono ?_
  rintro e w3 ⟨v, rfl, hR, hb⟩
  refine ⟨_, rfl, ?_⟩
  obtain ⟨A3, c3, e3⟩ := Kd.R_slice hR
  subst e3
  have n0_ := Aside0.mk (below_step (by repeat (first | (with_reducible first | exact HBB.out | apply below_alloc | apply pw_below_drewN | apply below_drew1) | exact HBB.out)) hb)
  have HOa := Aside0.mk hR
  clear HBB
  have HBB := n0_
  clear n0_
  clear hR
  refine hK.out _ _ ⟨(hb.cell (p := ⟨g, 3 + i * 3, none⟩) HGL.out).trans hHeld.1, (hb.frozen (p := ⟨g, 3 + i * 3, none⟩) HGL.out).trans hHeld.2.1, (hb.cell (p := ⟨b3, 0, none⟩) HG3.out).trans hHeld.2.2⟩ (fun hHeld => ?_)
  clear hK K
  refine norm_ (a' := ?_) ?_ ?_
  rotate_left
  · show Act.put _ (some 16) _ = _
    simp only [Act.put, List.setIfInBounds_toArray, List.set_cons_zero, List.set_cons_succ, i64_w, i32_w]
    rfl
  refine one_ (i := 9) (N := some 20) #[true, true, true, true, true, true, true, true, true, true, false, false, false] rfl rfl (by kernel_rfl) (by decide) (fun K hK => ?_)
  refine Kd.R_append_rows_step (Kd.int .u8) (w0 := wr.drew) wr.drew.heap.size (by rfl) (.tmp 16) (.tmp 19) 32 5 (.int .u8 0) 1 (by rfl) Try.underlying32 info5 rfl (by decide) (by omega) (.slice A3 (fl s i).seen.length c3) (fl s i).seen y _ _ _ (fun _ => True) (fun _ => False) (by rfl) (by rfl) ?aO ?aR (fun _ _ h => h) (fun _ h => h.elim) ?aF ?aB ?aS ?aL ?_
  case aR => exact Kd.C_below HCY.out (below_step (below_drew1 (Below.refl wr.heap.size wr)) HBB.out)
  case aB => exact (by repeat (first | (with_reducible first | exact HBB.out | apply below_alloc | apply pw_below_drewN | apply below_drew1) | exact HBB.out))
  case aF => exact fun _ _ => trivial
  case aO => exact (by (with_reducible repeat (first | apply Kd.R_alloc | apply Kd.R_drewN | apply Kd.R_drew)); exact HOa.out)
  case aS => exact (below_size (by repeat (first | (with_reducible first | exact HBB.out | apply below_alloc | apply pw_below_drewN | apply below_drew1) | exact HBB.out)))
  case aL => exact HLY.out
  intro vb w6 ho hb hg hat
  have n0_ := Aside0.mk hb
  have n1_ := Aside0.mk ho
  have hfr := (hb.frozen (p := ⟨g, 3 + i * 3, none⟩) HGL.out).trans hfs
  have hc3 := (hb.cell (p := ⟨b3, 0, none⟩) HG3.out).trans hbx
  clear HBB HOa
  have HBB := n0_
  have HOa := n1_
  clear n0_ n1_
  obtain ⟨A7, c7, e7⟩ := Kd.R_slice HOa.out
  subst e7
  refine hK.out _ _ ⟨(hb.cell (p := ⟨g, 3 + i * 3, none⟩) HGL.out).trans hs, hfr, hc3⟩ (fun hHeld => ?_)
  clear hK K
  refine norm_ (a' := ?_) ?_ ?_
  rotate_left
  · show Act.put _ (some 20) _ = _
    simp only [Act.put, List.setIfInBounds_toArray, List.set_cons_zero, List.set_cons_succ, i64_w, i32_w]
    rfl
  refine pure_ (i := 10) (N := some 21) (v := ?_) (a' := ?_) #[true, true, true, true, true, true, true, true, true, true, true, false, false] rfl rfl (by kernel_rfl) (fun _ _ _ h => h) (Or.inl ⟨by rfl, ?_⟩) ?_ ?_
  rotate_left
  · intro w'
    go_simp
    with_reducible rfl
  rotate_left
  · simp only [Act.put, List.setIfInBounds_toArray, List.set_cons_zero, List.set_cons_succ, i64_w, i32_w]
    rfl
  refine pure_ (i := 11) (N := some 22) (v := ?_) (a' := ?_) #[true, true, true, true, true, true, true, true, true, true, true, true, false] rfl rfl (by kernel_rfl) (fun _ _ _ h => h) (Or.inl ⟨by rfl, ?_⟩) ?_ ?_
  rotate_left
  · intro w'
    go_simp
    with_reducible rfl
  rotate_left
  · simp only [Act.put, List.setIfInBounds_toArray, List.set_cons_zero, List.set_cons_succ, i64_w, i32_w]
    rfl
  refine last_ (i := 12) (N := none) #[true, true, true, true, true, true, true, true, true, true, true, true, true] rfl rfl (by kernel_rfl) (by decide) (fun K hK => ?_)
  obtain ⟨hx0, hx1, hx2⟩ := hHeld
  refine skip_ (w1 := ?_) (by rfl) rfl ?_ ?_
  rotate_left
  · go_simp
    rfl
  refine hK.out _ _ ?_
  clear hK K
  refine done_ (by kernel_rfl) ?_
  have HB3 := Aside0.mk (below_step (below_drew1 (Below.refl wr.heap.size wr)) HBB.out)
  clear hs hfs hbx
  go_wp2
  first | go_end0 | ((try simp only [Exit.inBlock, Exit.then]); refine bodyPost_ret (results_none rfl _ _ _) rfl ?_)
  rw [← List.length_append]
  have hw6 : Wr g wr w6 := Wr.of_below HB3.out
  have hA6 := HA.out.same (HB3.out.block g HGL.out)
  have hRw := Rw.of_R HOa.out (G := G) (fun b hb => Nat.lt_of_lt_of_le (H.out.lt b hb) HW.out.size)
  have hw := hw6.set (3 + i * 3) (.slice A7 ((fl s i).seen ++ y).length c7)
  have hw63 := (Wr.refl g w6).set (3 + i * 3) (.slice A7 ((fl s i).seen ++ y).length c7)
  have hI : IsD G wr g s := ⟨fun b hb => Nat.lt_of_lt_of_le (H.out.lt b hb) HW.out.size, H.out.gg, d, HA.out, HR.out⟩
  refine ⟨rfl, hI.file HA.out.1 HR.out hi (hA6.setS hi _) hw ⟨hRw.wr hw63 H.out.gg, (HR.out.2.2.2.2.2.2 i hi).2.1.wr hw H.out.gg, (HR.out.2.2.2.2.2.2 i hi).2.2⟩, HW.out.trans hw⟩
end Go.Proofs.Ytehjbhnlbjbhfaa.Dk
-- DkI
namespace Go.Proofs.Ytehjbhnlbjbhfaa.Dk
open Go Go.RowKit Go.Proofs.YtehjbhnlbjbhfaaW.PrintWords Go.Proofs.YtehjbhnlbjbhfaaW.PrintLast Go.Proofs.YtehjbhnlbjbhfaaW.PrintMore
open Go.Proofs.Ytehjbhnlbjbhfaa.PDiskBegins
set_option linter.unusedVariables false
set_option linter.unusedSimpArgs false
theorem IsD.dr {G : Nat → Prop} {g : Nat} {W : World} {s : DS} (h : IsD G W g s) : IsD G W.drew g s := h.below (below_drew1 (Below.refl _ _))
theorem IsD.drN {G : Nat → Prop} {g : Nat} {W : World} {s : DS} (h : IsD G W g s) (n : Nat) : IsD G (W.drewN n) g s := h.below (pw_below_drewN (Below.refl _ _) n)
theorem IsD.al {G : Nat → Prop} {g : Nat} {W : World} {s : DS} (h : IsD G W g s) (o : Obj) : IsD G (W.alloc o) g s := h.below (below_alloc (Below.refl _ _) o)
theorem IsD.ltg {G : Nat → Prop} {g : Nat} {W : World} {s : DS} (h : IsD G W g s) : g < W.heap.size := h.lt g h.gg
theorem Wr.cell {g : Nat} {w w' : World} (h : Wr g w w') {b o : Nat} {v : Value} (hc : w.cell? ⟨b, o, none⟩ = some v) (hne : b ≠ g) : w'.cell? ⟨b, o, none⟩ = some v := by
  have hb := h.block b (World.block_lt_of_cell? w _ hc) hne
  simpa [World.cell?, hb] using hc
set_option maxHeartbeats 8000000 in
set_option maxRecDepth 100000 in
theorem Clear_calls (G : Nat → Prop) (g : Nat) (s : DS) (i : Int) (w : World) (h : IsD G w g s) (hok : Okk s) : Calls Try.prog 55 #[.pointer (some ⟨g, 0, none⟩), .int .i64 i] w fun e w' => e = .returned (.int .i64 (clearP s i).2) ∧ IsD G w' g (clearP s i).1 ∧ Wr g w w' := by
  have H := Aside0.mk h
  have HOK := Aside0.mk hok
  have HG := Aside0.mk h.ltg
  have H2 := Aside0.mk ((h.al (.cells #[.pointer (some ⟨g, 0, none⟩)] 23)).al (.cells #[.int .i64 i] 3))
  have HAB := Aside0.mk (able_calls G g s i _ H2.out)
  have HW2 := Aside0.mk (Wr.of_below (g := g) (below_alloc (below_alloc (Below.refl w.heap.size w) (.cells #[.pointer (some ⟨g, 0, none⟩)] 23)) (.cells #[.int .i64 i] 3)))
  rcases able_cases s i with c | ⟨c, j, hj, rfl, _, _⟩
  · have HR := Aside0.mk (show clearP s i = (s, ableP s i) by unfold clearP; rw [if_pos c])
    have c1 : (ableP s i != (0 : Int)) = true := by simpa using c
    have c2 : (ableP s i == (0 : Int)) = false := by simpa using c
    rw [HR.out]
    clear h c HR hok
    generalize ableP s i = er at *
    go_enter Try.func55, Try.ntmps55
    go_wp2_with (fail)
    refine (HAB.out).mono ?_
    rintro e w1 ⟨rfl, ⟨nd, rfl⟩⟩
    go_wp2
    go_ret
    exact ⟨rfl, H2.out.drN nd, HW2.out.drew1 nd⟩
  · have HR := Aside0.mk (show clearP s (j : Int) = actP s 1 (doneC j) by unfold clearP; rw [if_neg (by rw [c]; decide), Int.toNat_natCast])
    rw [c] at HAB
    rw [HR.out]
    have HJ := Aside0.mk hj
    have hb1 : ((w.alloc (.cells #[.pointer (some ⟨g, 0, none⟩)] 23)).alloc (.cells #[.int .i64 (j : Int)] 3)).cell? ⟨w.heap.size, 0, none⟩ = some (.pointer (some ⟨g, 0, none⟩)) := (blk_cell (blk_alloc (blk_new w _) _) 0).trans rfl
    have hb2 : ((w.alloc (.cells #[.pointer (some ⟨g, 0, none⟩)] 23)).alloc (.cells #[.int .i64 (j : Int)] 3)).cell? ⟨w.heap.size + 1, 0, none⟩ = some (.int .i64 (j : Int)) := by
      have := blk_new (w.alloc (.cells #[.pointer (some ⟨g, 0, none⟩)] 23)) (.cells #[.int .i64 (j : Int)] 3)
      rw [show (w.alloc (.cells #[.pointer (some ⟨g, 0, none⟩)] 23)).heap.size = w.heap.size + 1 by simp] at this
      exact (blk_cell this 0).trans rfl
    have HB1 := Aside0.mk hb1
    have HB2 := Aside0.mk hb2
    clear h c HR hok hb1 hb2 hj
    go_enter Try.func55, Try.ntmps55
    go_wp2_with (fail)
    refine (HAB.out).mono ?_
    rintro e w1 ⟨rfl, ⟨nd, rfl⟩⟩
    go_wp2_with (fail)
    refine (act47_calls G g s 1 (doneC j) (.pointer (some ⟨w.heap.size, 0, none⟩)) (.pointer (some ⟨w.heap.size + 1, 0, none⟩)) _ (H2.out.drN nd) HOK.out.1 (by decide) (fun s' m w' hI hfs hW hm => c47_calls G g s' j m w.heap.size (w.heap.size + 1) w' hI HJ.out (hW.cell (b := w.heap.size) HB1.out (by have := HG.out; omega)) (hW.cell (b := w.heap.size + 1) HB2.out (by have := HG.out; omega)) (by have := HG.out; omega) (by have := HG.out; omega)) ((HOK.out.1.burn 1).doneC HJ.out _) (keepC j s 1 _) HOK.out.2).mono ?_
    rintro e w2 ⟨rfl, hI, hW⟩
    have HI := Aside0.mk hI
    have HWF := Aside0.mk ((HW2.out.drew1 nd).trans hW)
    clear hI hW
    go_wp2
    go_ret
    exact ⟨rfl, HI.out, HWF.out⟩
set_option maxHeartbeats 8000000 in
set_option maxRecDepth 100000 in
theorem Sync_calls (G : Nat → Prop) (g : Nat) (s : DS) (i : Int) (w : World) (h : IsD G w g s) (hok : Okk s) : Calls Try.prog 54 #[.pointer (some ⟨g, 0, none⟩), .int .i64 i] w fun e w' => e = .returned (.int .i64 (syncP s i).2) ∧ IsD G w' g (syncP s i).1 ∧ Wr g w w' := by
  have H := Aside0.mk h
  have HOK := Aside0.mk hok
  have HG := Aside0.mk h.ltg
  have H2 := Aside0.mk ((h.al (.cells #[.pointer (some ⟨g, 0, none⟩)] 23)).al (.cells #[.int .i64 i] 3))
  have HAB := Aside0.mk (able_calls G g s i _ H2.out)
  have HW2 := Aside0.mk (Wr.of_below (g := g) (below_alloc (below_alloc (Below.refl w.heap.size w) (.cells #[.pointer (some ⟨g, 0, none⟩)] 23)) (.cells #[.int .i64 i] 3)))
  rcases able_cases s i with c | ⟨c, j, hj, rfl, _, _⟩
  · have HR := Aside0.mk (show syncP s i = (s, ableP s i) by unfold syncP; rw [if_pos c])
    have c1 : (ableP s i != (0 : Int)) = true := by simpa using c
    have c2 : (ableP s i == (0 : Int)) = false := by simpa using c
    rw [HR.out]
    clear h c HR hok
    generalize ableP s i = er at *
    go_enter Try.func54, Try.ntmps54
    go_wp2_with (fail)
    refine (HAB.out).mono ?_
    rintro e w1 ⟨rfl, ⟨nd, rfl⟩⟩
    go_wp2
    go_ret
    exact ⟨rfl, H2.out.drN nd, HW2.out.drew1 nd⟩
  · have HR := Aside0.mk (show syncP s (j : Int) = actP s 1 (doneY j) by unfold syncP; rw [if_neg (by rw [c]; decide), Int.toNat_natCast])
    rw [c] at HAB
    rw [HR.out]
    have HJ := Aside0.mk hj
    have hb1 : ((w.alloc (.cells #[.pointer (some ⟨g, 0, none⟩)] 23)).alloc (.cells #[.int .i64 (j : Int)] 3)).cell? ⟨w.heap.size, 0, none⟩ = some (.pointer (some ⟨g, 0, none⟩)) := (blk_cell (blk_alloc (blk_new w _) _) 0).trans rfl
    have hb2 : ((w.alloc (.cells #[.pointer (some ⟨g, 0, none⟩)] 23)).alloc (.cells #[.int .i64 (j : Int)] 3)).cell? ⟨w.heap.size + 1, 0, none⟩ = some (.int .i64 (j : Int)) := by
      have := blk_new (w.alloc (.cells #[.pointer (some ⟨g, 0, none⟩)] 23)) (.cells #[.int .i64 (j : Int)] 3)
      rw [show (w.alloc (.cells #[.pointer (some ⟨g, 0, none⟩)] 23)).heap.size = w.heap.size + 1 by simp] at this
      exact (blk_cell this 0).trans rfl
    have HB1 := Aside0.mk hb1
    have HB2 := Aside0.mk hb2
    clear h c HR hok hb1 hb2 hj
    go_enter Try.func54, Try.ntmps54
    go_wp2_with (fail)
    refine (HAB.out).mono ?_
    rintro e w1 ⟨rfl, ⟨nd, rfl⟩⟩
    go_wp2_with (fail)
    refine (act44_calls G g s 1 (doneY j) (.pointer (some ⟨w.heap.size, 0, none⟩)) (.pointer (some ⟨w.heap.size + 1, 0, none⟩)) _ (H2.out.drN nd) HOK.out.1 (by decide) (fun s' m w' hI hfs hW hm => c44_calls G g s' j m w.heap.size (w.heap.size + 1) w' hI HJ.out (hW.cell (b := w.heap.size) HB1.out (by have := HG.out; omega)) (hW.cell (b := w.heap.size + 1) HB2.out (by have := HG.out; omega)) (by have := HG.out; omega) (by have := HG.out; omega)) ((HOK.out.1.burn 1).doneY HJ.out _) (keepY j s 1 _) HOK.out.2).mono ?_
    rintro e w2 ⟨rfl, hI, hW⟩
    have HI := Aside0.mk hI
    have HWF := Aside0.mk ((HW2.out.drew1 nd).trans hW)
    clear hI hW
    go_wp2
    go_ret
    exact ⟨rfl, HI.out, HWF.out⟩
set_option maxHeartbeats 8000000 in
set_option maxRecDepth 100000 in
theorem Crash_calls (G : Nat → Prop) (g : Nat) (s : DS) (kV : Value) (keep : List Int) (w : World) (h : IsD G w g s) (hok : Okk s) (hk : Rw (fun b => b = g) .i64 w kV keep) (hkr : I64 keep) : Calls Try.prog 47 #[.pointer (some ⟨g, 0, none⟩), kV] w fun e w' => e = .returned (.int .i64 (crashP s keep).2) ∧ IsD G w' g (crashP s keep).1 ∧ Wr g w w' := by
  have H := Aside0.mk h
  have HOK := Aside0.mk hok
  have HK := Aside0.mk hk
  have HKR := Aside0.mk hkr
  have HAB := Aside0.mk (able_calls G g s 0 w h)
  obtain ⟨A, cc, rfl, _, _⟩ := hk.slice
  by_cases c : ableP s 0 ≠ 0
  · have HR := Aside0.mk (show crashP s keep = (s, ableP s 0) by unfold crashP; rw [if_pos c])
    have c1 : (ableP s 0 != (0 : Int)) = true := by simpa using c
    have c2 : (ableP s 0 == (0 : Int)) = false := by simpa using c
    rw [HR.out]
    clear h c HR hok hk hkr
    generalize ableP s 0 = er at *
    go_enter Try.func47, Try.ntmps47
    go_wp2_with (fail)
    refine (HAB.out).mono ?_
    rintro e w1 ⟨rfl, ⟨nd, rfl⟩⟩
    go_wp2
    go_ret
    exact ⟨rfl, H.out.drN nd, (Wr.refl g w).drew1 nd⟩
  · have HR := Aside0.mk (show crashP s keep = (fallP s keep, 0) by unfold crashP; rw [if_neg c])
    rw [Decidable.not_not.1 c] at HAB
    rw [HR.out]
    clear h c HR hok hk hkr
    go_enter Try.func47, Try.ntmps47
    go_wp2_with (fail)
    refine (HAB.out).mono ?_
    rintro e w1 ⟨rfl, ⟨nd, rfl⟩⟩
    go_wp2_with (fail)
    refine (fall_calls G g s _ keep _ (H.out.drN nd) HOK.out.1 (HK.out.below (pw_below_drewN (Below.refl _ _) nd)) HKR.out).mono ?_
    rintro e w2 ⟨rfl, hI, hW⟩
    have HI := Aside0.mk hI
    have HWF := Aside0.mk (((Wr.refl g w).drew1 nd).trans hW)
    clear hI hW
    go_wp2
    go_ret
    exact ⟨rfl, HI.out, HWF.out⟩
set_option maxHeartbeats 8000000 in
set_option maxRecDepth 100000 in
theorem Arm_calls (G : Nat → Prop) (g : Nat) (s : DS) (n : Int) (kV : Value) (keep : List Int) (w : World) (h : IsD G w g s) (hok : Okk s) (hk : Rw (fun b => b = g) .i64 w kV keep) (hkl : keep.length < 1000000000) : Calls Try.prog 42 #[.pointer (some ⟨g, 0, none⟩), .int .i64 n, kV] w fun e w' => e = .returned (.int .i64 (armP s n keep).2) ∧ IsD G w' g (armP s n keep).1 ∧ Wr g w w' := by
  have H := Aside0.mk h
  have HOK := Aside0.mk hok
  have HK := Aside0.mk hk
  have HAB := Aside0.mk (able_calls G g s 0 w h)
  obtain ⟨A, cc, rfl, hcc, hC⟩ := hk.slice
  have HC := Aside0.mk (And.intro hcc hC)
  have HKL := Aside0.mk (show keep.length < 17592186044416 by omega)
  by_cases c : ableP s 0 ≠ 0
  · have HR := Aside0.mk (show armP s n keep = (s, ableP s 0) by unfold armP; rw [if_pos c])
    have c1 : (ableP s 0 != (0 : Int)) = true := by simpa using c
    have c2 : (ableP s 0 == (0 : Int)) = false := by simpa using c
    rw [HR.out]
    clear h c HR hok hk hkl hcc hC
    generalize ableP s 0 = er at *
    go_enter Try.func42, Try.ntmps42
    go_wp2_with (fail)
    refine (HAB.out).mono ?_
    rintro e w1 ⟨rfl, ⟨nd, rfl⟩⟩
    go_wp2
    go_ret
    exact ⟨rfl, H.out.drN nd, (Wr.refl g w).drew1 nd⟩
  · rw [Decidable.not_not.1 c] at HAB
    by_cases c1 : n < 1
    · have HR := Aside0.mk (show armP s n keep = (s, 1) by unfold armP; rw [if_neg c, if_pos c1])
      rw [HR.out]
      have d1 : decide (n < 1) = true := decide_eq_true c1
      clear h c HR hok hk hkl hcc hC
      go_enter Try.func42, Try.ntmps42
      go_wp2_with (fail)
      refine (HAB.out).mono ?_
      rintro e w1 ⟨rfl, ⟨nd, rfl⟩⟩
      go_wp2
      go_ret
      exact ⟨rfl, H.out.drN nd, (Wr.refl g w).drew1 nd⟩
    · have HR := Aside0.mk (show armP s n keep = ({ s with set := true, left := n, keep := keep }, 0) by unfold armP; rw [if_neg c, if_neg c1])
      rw [HR.out]
      have d1 : decide (n < 1) = false := decide_eq_false c1
      clear h c HR hok hk hkl hcc hC c1
      go_enter Try.func42, Try.ntmps42
      go_wp2_with (fail)
      refine (HAB.out).mono ?_
      rintro e w1 ⟨rfl, ⟨nd, rfl⟩⟩
      go_wp2_with (fail)
      refine (Clone_i A cc keep _ (Kd.C_drewN HC.out.2 nd) HC.out.1 HKL.out).mono ?_
      rintro e w2 ⟨v, rfl, hR2, hB2⟩
      obtain ⟨A2, c2, rfl⟩ := Kd.R_slice hR2
      have H2 := Aside0.mk ((H.out.drN nd).below hB2)
      have HW2 := Aside0.mk (((Wr.refl g w).drew1 nd).trans (Wr.of_below hB2))
      have HRW := Aside0.mk (Rw.of_R hR2 (G := G) (fun b hb => (H.out.drN nd).lt b hb))
      clear hR2 hB2
      obtain ⟨_, _, d, hA, hR⟩ := H2.out
      have hc0 := hA.c0
      have hc1 := hA.c1
      have hc2 := hA.c2
      have hf0 := hA.frozen 0
      have hf1 := hA.frozen 1
      have hf2 := hA.frozen 2
      obtain ⟨A3, c3, hv, _, _⟩ := hR.2.2.1.slice
      rw [hv] at hc2
      have HA := Aside0.mk hA
      have HR := Aside0.mk hR
      clear hA hR hv
      go_wp2
      go_ret
      have hw := (((Wr.refl g w2).set 0 (.bool true)).set 1 (.int .i64 n)).set 2 (.slice A2 keep.length c2)
      have hr := HR.out.wr hw H2.out.gg
      refine ⟨rfl, ⟨fun b hb => Nat.lt_of_lt_of_le (H2.out.lt b hb) hw.size, H2.out.gg, _, ((HA.out.set0 true).set1 n).set2 _, rfl, rfl, HRW.out.wr hw H2.out.gg, hr.2.2.2.1, hr.2.2.2.2.1, hr.2.2.2.2.2.1, hr.2.2.2.2.2.2⟩, HW2.out.trans hw⟩
end Go.Proofs.Ytehjbhnlbjbhfaa.Dk
-- DkJ
namespace Go.Proofs.Ytehjbhnlbjbhfaa.Dk
open Go Go.RowKit Go.Proofs.YtehjbhnlbjbhfaaW.PrintWords Go.Proofs.YtehjbhnlbjbhfaaW.PrintLast Go.Proofs.YtehjbhnlbjbhfaaW.PrintMore
open Go.Proofs.Ytehjbhnlbjbhfaa.PDiskBegins
set_option linter.unusedVariables false
set_option linter.unusedSimpArgs false
abbrev B1 (w : World) (g : Nat) : World := w.alloc (.cells #[.pointer (some ⟨g, 0, none⟩)] 23)
abbrev B2 (w : World) (g : Nat) (i : Int) : World := (B1 w g).alloc (.cells #[.int .i64 i] 3)
abbrev B3 (w : World) (g : Nat) (i : Int) (v : Value) : World := (B2 w g i).alloc (.cells #[v] 32)
theorem box_cells (w : World) (g : Nat) (i : Int) (v : Value) : (B3 w g i v).cell? ⟨w.heap.size, 0, none⟩ = some (.pointer (some ⟨g, 0, none⟩)) ∧ (B3 w g i v).cell? ⟨w.heap.size + 1, 0, none⟩ = some (.int .i64 i) ∧ (B3 w g i v).cell? ⟨w.heap.size + 2, 0, none⟩ = some v ∧ (B3 w g i v).heap.size = w.heap.size + 3 := by
  have e1 : (B1 w g).heap.size = w.heap.size + 1 := by simp [B1]
  have e2 : (B2 w g i).heap.size = w.heap.size + 2 := by simp [B2, B1]
  have h2 := blk_new (B1 w g) (.cells #[.int .i64 i] 3)
  have h3 := blk_new (B2 w g i) (.cells #[v] 32)
  rw [e1] at h2
  rw [e2] at h3
  exact ⟨(blk_cell (blk_alloc (blk_alloc (blk_new w _) _) _) 0).trans rfl, (blk_cell (blk_alloc h2 _) 0).trans rfl, (blk_cell h3 0).trans rfl, by simp [B3, B2, B1]⟩
set_option maxHeartbeats 8000000 in
set_option maxRecDepth 100000 in
theorem Append_calls (G : Nat → Prop) (g : Nat) (s : DS) (i : Int) (bV : Value) (bs : List Int) (w : World) (h : IsD G w g s) (hok : Okk s) (hbv : Rw (fun b => b = g) .u8 w bV bs) (hbl : bs.length < 1000000000) : Calls Try.prog 32 #[.pointer (some ⟨g, 0, none⟩), .int .i64 i, bV] w fun e w' => e = .returned (.int .i64 (appendP s i bs).2) ∧ IsD G w' g (appendP s i bs).1 ∧ Wr g w w' := by
  have H := Aside0.mk h
  have HOK := Aside0.mk hok
  have HOK1 := Aside0.mk hok.1
  have HG := Aside0.mk h.ltg
  have HBV := Aside0.mk hbv
  have HBL := Aside0.mk hbl
  obtain ⟨B, cb, rfl, hcb, _⟩ := hbv.slice
  have HCB := Aside0.mk hcb
  have H2 := Aside0.mk (((h.al (.cells #[.pointer (some ⟨g, 0, none⟩)] 23)).al (.cells #[.int .i64 i] 3)).al (.cells #[.slice B bs.length cb] 32))
  have HAB := Aside0.mk (able_calls G g s i _ H2.out)
  have HW2 := Aside0.mk (Wr.of_below (g := g) (below_alloc (below_alloc (below_alloc (Below.refl w.heap.size w) (.cells #[.pointer (some ⟨g, 0, none⟩)] 23)) (.cells #[.int .i64 i] 3)) (.cells #[.slice B bs.length cb] 32)))
  rcases able_cases s i with c | ⟨c, j, hj, rfl, _, _⟩
  · have HR := Aside0.mk (show appendP s i bs = (s, ableP s i) by unfold appendP; rw [if_pos c])
    have c1 : (ableP s i != (0 : Int)) = true := by simpa using c
    have c2 : (ableP s i == (0 : Int)) = false := by simpa using c
    rw [HR.out]
    clear h c HR hok hbv hbl hcb
    generalize ableP s i = er at *
    go_enter Try.func32, Try.ntmps32
    go_wp2_with (fail)
    refine (HAB.out).mono ?_
    rintro e w1 ⟨rfl, ⟨nd, rfl⟩⟩
    go_wp2
    go_ret
    exact ⟨rfl, H2.out.drN nd, HW2.out.drew1 nd⟩
  · rw [c] at HAB
    have HJ := Aside0.mk hj
    obtain ⟨hx1, hx2, hx3, hx4⟩ := box_cells w g (j : Int) (.slice B bs.length cb)
    have HB1 := Aside0.mk hx1
    have HB2 := Aside0.mk hx2
    have HB3 := Aside0.mk hx3
    have HZ := Aside0.mk hx4
    have hc27 : s.room = s.room → ∃ d, At (B3 w g (j : Int) (.slice B bs.length cb)) g d ∧ d.room = s.room := fun _ => by
      obtain ⟨_, _, d, hA, hR⟩ := H2.out
      exact ⟨d, hA, hR.2.2.2.1⟩
    obtain ⟨d, hA, hrm⟩ := hc27 rfl
    have HA27 := Aside0.mk (show (B3 w g (j : Int) (.slice B bs.length cb)).cell? ⟨g, 27, none⟩ = some (.int .i64 s.room) by rw [← hrm]; exact hA.c27)
    have HC := Aside0.mk c
    obtain ⟨r, hr⟩ : ∃ r, appendP s (j : Int) bs = r := ⟨_, rfl⟩
    rw [hr]
    have HRR := Aside0.mk hr
    clear hr
    clear h c hok hbv hbl hcb hx1 hx2 hx3 hx4 hj hA hrm
    go_enter Try.func32, Try.ntmps32
    go_wp2_with (fail)
    refine (HAB.out).mono ?_
    rintro e w1 ⟨rfl, ⟨nd, rfl⟩⟩
    go_wp2
    refine with_w (fun w' => IsD G w' g s ∧ Wr g w w' ∧ w'.cell? ⟨w.heap.size, 0, none⟩ = some (.pointer (some ⟨g, 0, none⟩)) ∧ w'.cell? ⟨w.heap.size + 1, 0, none⟩ = some (.int .i64 (j : Int)) ∧ w'.cell? ⟨w.heap.size + 2, 0, none⟩ = some (.slice B bs.length cb) ∧ w'.cell? ⟨g, 27, none⟩ = some (.int .i64 s.room)) ⟨H2.out.drN nd, HW2.out.drew1 nd, HB1.out, HB2.out, HB3.out, HA27.out⟩ ?_
    clear H2 HW2 HB1 HB2 HB3 HA27 HZ HAB
    rintro wr ⟨h3, hW, hb1, hb2, hb3, hc27⟩
    have H3 := Aside0.mk h3
    have HW := Aside0.mk hW
    have HB2 := Aside0.mk hb2
    have HL1 := Aside0.mk (World.block_lt_of_cell? wr _ hb1)
    have HL2 := Aside0.mk (World.block_lt_of_cell? wr _ hb2)
    have HL3 := Aside0.mk (World.block_lt_of_cell? wr _ hb3)
    have HLG := Aside0.mk h3.ltg
    obtain ⟨D, hD⟩ : ∃ D : Int, s.room - (usedP s : Int) = D := ⟨_, rfl⟩
    have hU := used_le HOK.out.1
    have hRM := HOK.out.1.room
    have hw1 : wrap64 (s.room - (usedP s : Int)) = D := by unfold wrap64; omega
    have hw2 : IntKind.i64.wrap (s.room - (usedP s : Int)) = D := by clear hw1; exact (IntWalk.i64_in _ (by omega)).trans hD
    by_cases cf : D < (bs.length : Int)
    · have d1 : decide (D < (bs.length : Int)) = true := decide_eq_true cf
      have HR := Aside0.mk (show appendP s (j : Int) bs = (s, 7) by unfold appendP; rw [if_neg (by rw [HC.out]; decide), if_pos (by clear hw1 hw2 d1; omega)])
      rw [HR.out] at HRR
      clear h3 hW hb2 hD hU hRM cf
      refine start_ (n := 10) (S := fun w' => w'.cell? ⟨w.heap.size, 0, none⟩ = some (.pointer (some ⟨g, 0, none⟩)) ∧ w'.cell? ⟨w.heap.size + 2, 0, none⟩ = some (.slice B bs.length cb) ∧ w'.cell? ⟨g, 27, none⟩ = some (.int .i64 s.room)) (ds := []) #[false, false, false, false, false, false, false, false, false, false] (by kernel_rfl) rfl rfl ⟨hb1, hb3, hc27⟩ (fun hHeld => ?_)
      refine take_ (i := 0) (N := some 14) (v := ?_) (a' := ?_) #[true, false, false, false, false, false, false, false, false, false] rfl rfl (by kernel_rfl) (fun _ _ _ h => h) (Or.inl ⟨by rfl, ?_⟩) hHeld ?_ ?_
      rotate_left
      · rintro w' ⟨s0, s1, s2⟩
        go_simp
        with_reducible rfl
      rotate_left
      · simp only [Act.put, List.setIfInBounds_toArray, List.set_cons_zero, List.set_cons_succ, i64_w, i32_w]
        rfl
      refine pure_ (i := 1) (N := some 15) (v := ?_) (a' := ?_) #[true, true, false, false, false, false, false, false, false, false] rfl rfl (by kernel_rfl) (fun _ _ _ h => h) (Or.inl ⟨by rfl, ?_⟩) ?_ ?_
      rotate_left
      · intro w'
        go_simp
        with_reducible rfl
      rotate_left
      · simp only [Act.put, List.setIfInBounds_toArray, List.set_cons_zero, List.set_cons_succ, i64_w, i32_w]
        rfl
      refine take_ (i := 2) (N := some 16) (v := ?_) (a' := ?_) #[true, true, true, false, false, false, false, false, false, false] rfl rfl (by kernel_rfl) (fun _ _ _ h => h) (Or.inl ⟨by rfl, ?_⟩) hHeld ?_ ?_
      rotate_left
      · rintro w' ⟨s0, s1, s2⟩
        go_simp
        with_reducible rfl
      rotate_left
      · simp only [Act.put, List.setIfInBounds_toArray, List.set_cons_zero, List.set_cons_succ, i64_w, i32_w]
        rfl
      refine pure_ (i := 3) (N := some 17) (v := ?_) (a' := ?_) #[true, true, true, true, false, false, false, false, false, false] rfl rfl (by kernel_rfl) (fun _ _ _ h => h) (Or.inl ⟨by rfl, ?_⟩) ?_ ?_
      rotate_left
      · intro w'
        go_simp
        with_reducible rfl
      rotate_left
      · simp only [Act.put, List.setIfInBounds_toArray, List.set_cons_zero, List.set_cons_succ, i64_w, i32_w]
        rfl
      refine pure_ (i := 4) (N := some 18) (v := ?_) (a' := ?_) #[true, true, true, true, true, false, false, false, false, false] rfl rfl (by kernel_rfl) (fun _ _ _ h => h) (Or.inl ⟨by rfl, ?_⟩) ?_ ?_
      rotate_left
      · intro w'
        go_simp
        with_reducible rfl
      rotate_left
      · simp only [Act.put, List.setIfInBounds_toArray, List.set_cons_zero, List.set_cons_succ, i64_w, i32_w]
        rfl
      refine take_ (i := 5) (N := some 19) (v := ?_) (a' := ?_) #[true, true, true, true, true, true, false, false, false, false] rfl rfl (by kernel_rfl) (fun _ _ _ h => h) (Or.inl ⟨by rfl, ?_⟩) hHeld ?_ ?_
      rotate_left
      · rintro w' ⟨s0, s1, s2⟩
        go_simp
        with_reducible rfl
      rotate_left
      · simp only [Act.put, List.setIfInBounds_toArray, List.set_cons_zero, List.set_cons_succ, i64_w, i32_w]
        rfl
      refine take_ (i := 6) (N := some 20) (v := ?_) (a' := ?_) #[true, true, true, true, true, true, true, false, false, false] rfl rfl (by kernel_rfl) (fun _ _ _ h => h) (Or.inl ⟨by rfl, ?_⟩) hHeld ?_ ?_
      rotate_left
      · rintro w' ⟨s0, s1, s2⟩
        go_simp
        with_reducible rfl
      rotate_left
      · simp only [Act.put, List.setIfInBounds_toArray, List.set_cons_zero, List.set_cons_succ, i64_w, i32_w]
        rfl
      refine one_ (i := 7) (N := some 21) #[true, true, true, true, true, true, true, true, false, false] rfl rfl (by kernel_rfl) (by decide) (fun K hK => ?_)
      refine goes_ Try.func18 (by kernel_rfl) rfl #[.pointer (some ⟨g, 0, none⟩)] (by rfl) rfl rfl (by first | rfl | (simp; done) | (simp only [List.map_toArray, List.map_cons, List.map_nil]; rfl)) ?_
      with_reducible refine (Used_calls G g s _ (by repeat (first | exact H3.out | (with_reducible refine IsD.dr ?_) | (with_reducible refine IsD.drN ?_ _))) HOK1.out).mono ?_
      rintro e w3 ⟨rfl, hb⟩
      refine ⟨_, rfl, ?_⟩
      refine hK.out _ _ ⟨(hb.cell (p := ⟨w.heap.size, 0, none⟩) HL1.out).trans hHeld.1, (hb.cell (p := ⟨w.heap.size + 2, 0, none⟩) HL3.out).trans hHeld.2.1, (hb.cell (p := ⟨g, 27, none⟩) HLG.out).trans hHeld.2.2⟩ (fun hHeld => ?_)
      clear hK K
      refine norm_ (a' := ?_) ?_ ?_
      rotate_left
      · show Act.put _ (some 21) _ = _
        simp only [Act.put, List.setIfInBounds_toArray, List.set_cons_zero, List.set_cons_succ, i64_w, i32_w]
        rfl
      refine pure_ (i := 8) (N := some 22) (v := ?_) (a' := ?_) #[true, true, true, true, true, true, true, true, true, false] rfl rfl (by kernel_rfl) (fun _ _ _ h => h) (Or.inl ⟨by rfl, ?_⟩) ?_ ?_
      rotate_left
      · intro w'
        go_simp
        with_reducible rfl
      rotate_left
      · simp only [Act.put, List.setIfInBounds_toArray, List.set_cons_zero, List.set_cons_succ, i64_w, i32_w]
        rfl
      refine pure_ (i := 9) (N := some 23) (v := ?_) (a' := ?_) #[true, true, true, true, true, true, true, true, true, true] rfl rfl (by kernel_rfl) (fun _ _ _ h => h) (Or.inl ⟨by rfl, ?_⟩) ?_ ?_
      rotate_left
      · intro w'
        go_simp
        with_reducible rfl
      rotate_left
      · simp only [Act.put, List.setIfInBounds_toArray, List.set_cons_zero, List.set_cons_succ, i64_w, i32_w]
        rfl
      refine done_ (by kernel_rfl) ?_
      have HB := Aside0.mk (below_step (below_drew1 (Below.refl wr.heap.size wr)) hb)
      clear hb
      go_wp2
      go_ret
      rw [← HRR.out]
      exact ⟨rfl, H3.out.below HB.out, HW.out.trans (Wr.of_below HB.out)⟩
    · have d1 : decide (D < (bs.length : Int)) = false := decide_eq_false cf
      have HNF := Aside0.mk (show ¬ s.room < (usedP s : Int) + (bs.length : Int) by clear hw1 hw2 d1; omega)
      have HR := Aside0.mk (show appendP s (j : Int) bs = actP s bs.length (doneA j bs) by unfold appendP; rw [if_neg (by rw [HC.out]; decide), if_neg HNF.out, Int.toNat_natCast])
      rw [HR.out] at HRR
      clear h3 hW hb2 hD hU hRM cf
      refine start_ (n := 10) (S := fun w' => w'.cell? ⟨w.heap.size, 0, none⟩ = some (.pointer (some ⟨g, 0, none⟩)) ∧ w'.cell? ⟨w.heap.size + 2, 0, none⟩ = some (.slice B bs.length cb) ∧ w'.cell? ⟨g, 27, none⟩ = some (.int .i64 s.room)) (ds := []) #[false, false, false, false, false, false, false, false, false, false] (by kernel_rfl) rfl rfl ⟨hb1, hb3, hc27⟩ (fun hHeld => ?_)
      refine take_ (i := 0) (N := some 14) (v := ?_) (a' := ?_) #[true, false, false, false, false, false, false, false, false, false] rfl rfl (by kernel_rfl) (fun _ _ _ h => h) (Or.inl ⟨by rfl, ?_⟩) hHeld ?_ ?_
      rotate_left
      · rintro w' ⟨s0, s1, s2⟩
        go_simp
        with_reducible rfl
      rotate_left
      · simp only [Act.put, List.setIfInBounds_toArray, List.set_cons_zero, List.set_cons_succ, i64_w, i32_w]
        rfl
      refine pure_ (i := 1) (N := some 15) (v := ?_) (a' := ?_) #[true, true, false, false, false, false, false, false, false, false] rfl rfl (by kernel_rfl) (fun _ _ _ h => h) (Or.inl ⟨by rfl, ?_⟩) ?_ ?_
      rotate_left
      · intro w'
        go_simp
        with_reducible rfl
      rotate_left
      · simp only [Act.put, List.setIfInBounds_toArray, List.set_cons_zero, List.set_cons_succ, i64_w, i32_w]
        rfl
      refine take_ (i := 2) (N := some 16) (v := ?_) (a' := ?_) #[true, true, true, false, false, false, false, false, false, false] rfl rfl (by kernel_rfl) (fun _ _ _ h => h) (Or.inl ⟨by rfl, ?_⟩) hHeld ?_ ?_
      rotate_left
      · rintro w' ⟨s0, s1, s2⟩
        go_simp
        with_reducible rfl
      rotate_left
      · simp only [Act.put, List.setIfInBounds_toArray, List.set_cons_zero, List.set_cons_succ, i64_w, i32_w]
        rfl
      refine pure_ (i := 3) (N := some 17) (v := ?_) (a' := ?_) #[true, true, true, true, false, false, false, false, false, false] rfl rfl (by kernel_rfl) (fun _ _ _ h => h) (Or.inl ⟨by rfl, ?_⟩) ?_ ?_
      rotate_left
      · intro w'
        go_simp
        with_reducible rfl
      rotate_left
      · simp only [Act.put, List.setIfInBounds_toArray, List.set_cons_zero, List.set_cons_succ, i64_w, i32_w]
        rfl
      refine pure_ (i := 4) (N := some 18) (v := ?_) (a' := ?_) #[true, true, true, true, true, false, false, false, false, false] rfl rfl (by kernel_rfl) (fun _ _ _ h => h) (Or.inl ⟨by rfl, ?_⟩) ?_ ?_
      rotate_left
      · intro w'
        go_simp
        with_reducible rfl
      rotate_left
      · simp only [Act.put, List.setIfInBounds_toArray, List.set_cons_zero, List.set_cons_succ, i64_w, i32_w]
        rfl
      refine take_ (i := 5) (N := some 19) (v := ?_) (a' := ?_) #[true, true, true, true, true, true, false, false, false, false] rfl rfl (by kernel_rfl) (fun _ _ _ h => h) (Or.inl ⟨by rfl, ?_⟩) hHeld ?_ ?_
      rotate_left
      · rintro w' ⟨s0, s1, s2⟩
        go_simp
        with_reducible rfl
      rotate_left
      · simp only [Act.put, List.setIfInBounds_toArray, List.set_cons_zero, List.set_cons_succ, i64_w, i32_w]
        rfl
      refine take_ (i := 6) (N := some 20) (v := ?_) (a' := ?_) #[true, true, true, true, true, true, true, false, false, false] rfl rfl (by kernel_rfl) (fun _ _ _ h => h) (Or.inl ⟨by rfl, ?_⟩) hHeld ?_ ?_
      rotate_left
      · rintro w' ⟨s0, s1, s2⟩
        go_simp
        with_reducible rfl
      rotate_left
      · simp only [Act.put, List.setIfInBounds_toArray, List.set_cons_zero, List.set_cons_succ, i64_w, i32_w]
        rfl
      refine one_ (i := 7) (N := some 21) #[true, true, true, true, true, true, true, true, false, false] rfl rfl (by kernel_rfl) (by decide) (fun K hK => ?_)
      refine goes_ Try.func18 (by kernel_rfl) rfl #[.pointer (some ⟨g, 0, none⟩)] (by rfl) rfl rfl (by first | rfl | (simp; done) | (simp only [List.map_toArray, List.map_cons, List.map_nil]; rfl)) ?_
      with_reducible refine (Used_calls G g s _ (by repeat (first | exact H3.out | (with_reducible refine IsD.dr ?_) | (with_reducible refine IsD.drN ?_ _))) HOK1.out).mono ?_
      rintro e w3 ⟨rfl, hb⟩
      refine ⟨_, rfl, ?_⟩
      refine hK.out _ _ ⟨(hb.cell (p := ⟨w.heap.size, 0, none⟩) HL1.out).trans hHeld.1, (hb.cell (p := ⟨w.heap.size + 2, 0, none⟩) HL3.out).trans hHeld.2.1, (hb.cell (p := ⟨g, 27, none⟩) HLG.out).trans hHeld.2.2⟩ (fun hHeld => ?_)
      clear hK K
      refine norm_ (a' := ?_) ?_ ?_
      rotate_left
      · show Act.put _ (some 21) _ = _
        simp only [Act.put, List.setIfInBounds_toArray, List.set_cons_zero, List.set_cons_succ, i64_w, i32_w]
        rfl
      refine pure_ (i := 8) (N := some 22) (v := ?_) (a' := ?_) #[true, true, true, true, true, true, true, true, true, false] rfl rfl (by kernel_rfl) (fun _ _ _ h => h) (Or.inl ⟨by rfl, ?_⟩) ?_ ?_
      rotate_left
      · intro w'
        go_simp
        with_reducible rfl
      rotate_left
      · simp only [Act.put, List.setIfInBounds_toArray, List.set_cons_zero, List.set_cons_succ, i64_w, i32_w]
        rfl
      refine pure_ (i := 9) (N := some 23) (v := ?_) (a' := ?_) #[true, true, true, true, true, true, true, true, true, true] rfl rfl (by kernel_rfl) (fun _ _ _ h => h) (Or.inl ⟨by rfl, ?_⟩) ?_ ?_
      rotate_left
      · intro w'
        go_simp
        with_reducible rfl
      rotate_left
      · simp only [Act.put, List.setIfInBounds_toArray, List.set_cons_zero, List.set_cons_succ, i64_w, i32_w]
        rfl
      refine done_ (by kernel_rfl) ?_
      have HB := Aside0.mk (below_step (below_drew1 (Below.refl wr.heap.size wr)) hb)
      have hc1 : w3.cell? ⟨w.heap.size, 0, none⟩ = some (.pointer (some ⟨g, 0, none⟩)) := (HB.out.cell (p := ⟨w.heap.size, 0, none⟩) HL1.out).trans hb1
      have hc3 : w3.cell? ⟨w.heap.size + 2, 0, none⟩ = some (.slice B bs.length cb) := (HB.out.cell (p := ⟨w.heap.size + 2, 0, none⟩) HL3.out).trans hb3
      have HC1 := Aside0.mk hc1
      have HC3 := Aside0.mk hc3
      have HC2 := Aside0.mk ((HB.out.cell (p := ⟨w.heap.size + 1, 0, none⟩) HL2.out).trans HB2.out)
      have HBV3 := Aside0.mk (HBV.out.step (fun b hb hlt => (HW.out.trans (Wr.of_below HB.out)).block b hlt hb))
      clear hb hb1 hb3 hc27 hw1 hw2
      go_wp2_with (fail)
      refine (act46_calls G g s bs.length (doneA j bs) (.pointer (some ⟨w.heap.size, 0, none⟩)) (.pointer (some ⟨w.heap.size + 1, 0, none⟩)) (.pointer (some ⟨w.heap.size + 2, 0, none⟩)) _ (H3.out.below HB.out) HOK.out.1 HBL.out (fun s' m w' hI hfs hW hm => ?cl) ((HOK.out.1.burn _).doneA HJ.out bs _ (by rw [fl_burn]; exact fits HOK.out.1 HJ.out bs (by have := HNF.out; omega))) (keepA j bs s _ _) HOK.out.2).mono ?_
      case cl =>
        have hs' : (fl s' j).seen.length ≤ 4194304 := by
          have := HOK.out.1.seen_le HJ.out
          unfold fl at this ⊢
          rw [hfs]; exact this
        exact c46_calls G g s' j m bs B cb w.heap.size (w.heap.size + 1) (w.heap.size + 2) w' hI HJ.out hs' (hW.cell (b := w.heap.size) HC1.out (by have := HG.out; omega)) (hW.cell (b := w.heap.size + 1) HC2.out (by have := HG.out; omega)) (hW.cell (b := w.heap.size + 2) HC3.out (by have := HG.out; omega)) (Kd.V_reads' (HBV3.out.step (fun b hb hlt => hW.block b hlt hb))).2.2 HCB.out hm HBL.out
      rintro e w4 ⟨rfl, hI, hW⟩
      have HI := Aside0.mk hI
      have HWF := Aside0.mk ((HW.out.trans (Wr.of_below HB.out)).trans hW)
      clear hI hW
      go_wp2
      go_ret
      rw [← HRR.out]
      exact ⟨rfl, HI.out, HWF.out⟩
end Go.Proofs.Ytehjbhnlbjbhfaa.Dk
-- DkK
namespace Go.Proofs.Ytehjbhnlbjbhfaa.Dk
open Go Go.RowKit Go.Proofs.YtehjbhnlbjbhfaaW.PrintWords Go.Proofs.YtehjbhnlbjbhfaaW.PrintLast Go.Proofs.YtehjbhnlbjbhfaaW.PrintMore
open Go.Proofs.Ytehjbhnlbjbhfaa.PDiskBegins
set_option linter.unusedVariables false
set_option linter.unusedSimpArgs false
theorem IsD.grow {G G' : Nat → Prop} {g : Nat} {W : World} {s : DS} (h : IsD G W g s) (hlt : ∀ k, G' k → k < W.heap.size) (hg : G' g) (hs : ∀ k, k < W.heap.size → G' k → G k) : IsD G' W g s := by
  obtain ⟨_, _, d, hA, hR⟩ := h
  exact ⟨hlt, hg, d, hA, hR.1, hR.2.1, hR.2.2.1.grow hs, hR.2.2.2.1, hR.2.2.2.2.1, hR.2.2.2.2.2.1, fun i hi => ⟨(hR.2.2.2.2.2.2 i hi).1.grow hs, (hR.2.2.2.2.2.2 i hi).2.1.grow hs, (hR.2.2.2.2.2.2 i hi).2.2⟩⟩
def zDV (room : Int) : DV := ⟨false, 0, .slice none 0 0, List.replicate 8 nv, room, false⟩
theorem zRows (G : Nat → Prop) (W : World) (room : Int) : Rows G W (zDV room) (newP room) := by
  refine ⟨rfl, rfl, Rw.nil _ _ _, rfl, rfl, rfl, fun i hi => ?_⟩
  have h1 : (zDV room).f i = nv := by rcases below8 hi with rfl | rfl | rfl | rfl | rfl | rfl | rfl | rfl <;> rfl
  have h2 : fl (newP room) i = nf := by rcases below8 hi with rfl | rfl | rfl | rfl | rfl | rfl | rfl | rfl <;> rfl
  rw [h1, h2]
  exact ⟨Rw.nil _ _ _, Rw.nil _ _ _, rfl⟩
set_option maxHeartbeats 8000000 in
set_option maxRecDepth 100000 in
theorem New_calls (room : Int) (w : World) (h1 : 1 ≤ room) (h2 : room ≤ 4194304) : Calls Try.prog 10 #[.int .i64 room] w fun e w' => ∃ b, e = .returned (.tuple #[.pointer (some ⟨b, 0, none⟩), .int .i64 0]) ∧ w.heap.size ≤ b ∧ b < w'.heap.size ∧ Below w.heap.size w w' ∧ ∀ G : Nat → Prop, (∀ k, G k → k < w'.heap.size) → G b → IsD G w' b (newP room) := by
  have d1 : decide (room < 1) = false := decide_eq_false (by omega)
  have d2 : decide (4194304 < room) = false := decide_eq_false (by omega)
  clear h1 h2
  go_enter Try.func10, Try.ntmps10
  go_wp2
  go_ret2
  refine ⟨w.heap.size, rfl, Nat.le_refl _, by simp, below_alloc (Below.refl _ _) _, fun G hG hb => ⟨hG, hb, zDV room, ⟨rfl, ?_⟩, zRows _ _ _⟩⟩
  exact blk_new w _
theorem whole_cells {W : World} {g : Nat} {d : DV} (h : At W g d) : ∀ j v, d.cells[j]? = some v → W.cell? ⟨g, 0 + j, none⟩ = some v := by
  intro j v hj
  rw [Nat.zero_add, h.cell]; exact hj
theorem cells_len {d : DV} (h : d.fs.length = 8) : d.cells.length = 29 := by
  obtain ⟨a0, a1, a2, a3, a4, a5, a6, a7, e⟩ := eight h
  unfold DV.cells; rw [e]; rfl
theorem Rw.one_cell {G : Nat → Prop} {k : IntKind} {W : World} {v : Value} {xs : List Int} (h : Rw G k W v xs) : v.oneCell' = true := by
  obtain ⟨A, c, rfl, _, _⟩ := h.slice
  rfl
theorem cells_one {G : Nat → Prop} {W : World} {d : DV} {s : DS} (hd : d.fs.length = 8) (h : Rows G W d s) : d.cells.toArray.all (·.oneCell') = true := by
  rw [List.all_toArray, List.all_eq_true]
  intro v hv
  unfold DV.cells at hv
  simp only [List.mem_append, List.mem_cons, List.not_mem_nil, or_false, List.mem_flatMap] at hv
  rcases hv with (rfl | rfl | rfl) | ⟨f, hf, hv⟩ | rfl | rfl
  · rfl
  · rfl
  · exact h.2.2.1.one_cell
  · obtain ⟨i, hi, e⟩ := List.getElem_of_mem hf
    have hfi : d.f i = f := by unfold DV.f; rw [List.getD_eq_getElem?_getD, List.getElem?_eq_getElem hi]; exact e
    have hr := h.2.2.2.2.2.2 i (by omega)
    rw [hfi] at hr
    unfold FV.cells at hv
    simp only [List.mem_cons, List.not_mem_nil, or_false] at hv
    rcases hv with rfl | rfl | rfl
    · exact hr.1.one_cell
    · exact hr.2.1.one_cell
    · rfl
  · rfl
  · rfl
set_option maxHeartbeats 8000000 in
set_option maxRecDepth 100000 in
theorem DClone_calls (G : Nat → Prop) (g : Nat) (s : DS) (w : World) (h : IsD G w g s) : Calls Try.prog 38 #[.pointer (some ⟨g, 0, none⟩)] w fun e w' => ∃ b, e = .returned (.pointer (some ⟨b, 0, none⟩)) ∧ w.heap.size ≤ b ∧ b < w'.heap.size ∧ Below w.heap.size w w' ∧ IsD (fun k => G k ∨ k = b) w' b s := by
  have H := Aside0.mk h
  obtain ⟨_, _, d, hA, hR⟩ := h
  have HFC := Aside0.mk (whole_cells hA)
  have HFL := Aside0.mk (cells_len hA.1)
  have HONE := Aside0.mk (cells_one hA.1 hR)
  have HA := Aside0.mk hA
  have HR := Aside0.mk hR
  clear hA hR
  obtain ⟨X, hX⟩ : ∃ X, d.cells = X := ⟨_, rfl⟩
  have HX := Aside0.mk hX
  rw [hX] at HFC HFL HONE
  clear hX
  have HNEW := Aside0.mk (blk_new w (.cells (zDV 0).cells.toArray 64))
  go_enter Try.func38, Try.ntmps38
  go_wp2_with (first | ((with_reducible refine gate_dst (N := 8) rfl ?_); refine wpList_load_seg (P := Try.prog) rfl 64 (.tmp 7) rfl g 0 rfl X _ HFC.out Try.underlying64 rfl (by rw [HFL.out]; kernel_rfl) ?_) | ((with_reducible refine gate_ (.store 64 (.tmp 3) (.tmp 8)) rfl ?_); refine wpList_store_row (P := Try.prog) rfl 64 (.tmp 3) (.tmp 8) rfl w.heap.size X.toArray rfl rfl 64 (zDV 0).cells.toArray HNEW.out (by rw [List.size_toArray, HFL.out]; kernel_rfl) (by rw [List.size_toArray, List.size_toArray, HFL.out]; rfl) HONE.out ?_))
  go_ret
  have hb := setRow_heap (w.alloc (.cells (zDV 0).cells.toArray 64)) w.heap.size _ X.toArray 64 (0, 0) HNEW.out
  have hz : (w.alloc (.cells (zDV 0).cells.toArray 64)).heap.size = w.heap.size + 1 := by simp
  have hsz : ((w.alloc (.cells (zDV 0).cells.toArray 64)).setRow w.heap.size X.toArray).heap.size = w.heap.size + 1 := by simp [World.setRow]
  have hB : Below w.heap.size w ((w.alloc (.cells (zDV 0).cells.toArray 64)).setRow w.heap.size X.toArray) := by
    have h0 := below_alloc (Below.refl w.heap.size w) (.cells (zDV 0).cells.toArray 64)
    exact ⟨h0.os, h0.tape, h0.output, by rw [hsz]; omega, fun k hk => (setRow_other _ _ k _ (by omega)).trans (h0.block k hk)⟩
  refine ⟨w.heap.size, rfl, Nat.le_refl _, Nat.lt_of_lt_of_eq (Nat.lt_succ_self _) hsz.symm, hB, ?_⟩
  have h2 := H.out.more (Nat.le_refl _) (by rw [hsz]; omega) hB
  have hr := (HR.out.wr (Wr.of_below (g := g) hB) H.out.gg)
  refine ⟨h2.lt, .inr rfl, d, ⟨HA.out.1, by rw [HX.out]; exact hb⟩, ?_⟩
  have hgr : ∀ k, k < w.heap.size → (G k ∨ k = w.heap.size) → G k := fun k hk hg => hg.elim id (fun e => by omega)
  have hR2 : Rows (fun k => G k ∨ k = w.heap.size) w d s := ⟨HR.out.1, HR.out.2.1, HR.out.2.2.1.grow hgr, HR.out.2.2.2.1, HR.out.2.2.2.2.1, HR.out.2.2.2.2.2.1, fun i hi => ⟨(HR.out.2.2.2.2.2.2 i hi).1.grow hgr, (HR.out.2.2.2.2.2.2 i hi).2.1.grow hgr, (HR.out.2.2.2.2.2.2 i hi).2.2⟩⟩
  exact hR2.wr (Wr.of_below (g := g) hB) (.inl H.out.gg)
end Go.Proofs.Ytehjbhnlbjbhfaa.Dk
-- DkL
namespace Go.Proofs.Ytehjbhnlbjbhfaa.Dk
open Go Go.RowKit Go.Proofs.YtehjbhnlbjbhfaaW.PrintWords Go.Proofs.YtehjbhnlbjbhfaaW.PrintLast Go.Proofs.YtehjbhnlbjbhfaaW.PrintMore
open Go.Proofs.Ytehjbhnlbjbhfaa.PDiskBegins
set_option linter.unusedVariables false
set_option linter.unusedSimpArgs false
end Go.Proofs.Ytehjbhnlbjbhfaa.Dk
-- DkM
namespace Go.Proofs.Ytehjbhnlbjbhfaa.Dk
open Go Go.RowKit Go.Proofs.YtehjbhnlbjbhfaaW.PrintWords Go.Proofs.YtehjbhnlbjbhfaaW.PrintLast Go.Proofs.YtehjbhnlbjbhfaaW.PrintMore
open Go.Proofs.Ytehjbhnlbjbhfaa.PDiskBegins
set_option linter.unusedVariables false
set_option linter.unusedSimpArgs false
theorem Rw.came {G : Nat → Prop} {k : IntKind} {w : World} {A : Option Addr} {c : Nat} {xs : List Int} (h : (Kd.int k).C w A xs.length xs) (hc : xs.length ≤ c) (hG : ∀ b, G b → w.heap.size ≤ b) : Rw G k w (.slice A xs.length c) xs :=
  Kd.V_mk hc (Kd.F_mono (Kd.C_F (Kd.heap_int k) h) (fun b hb hg => by have := hG b hg; omega))
theorem wrap_succ {i n : Nat} (h : i < n) (hn : n ≤ 9223372036854775807) : wrap64 ((i : Int) + 1) = ((i + 1 : Nat) : Int) := by
  unfold wrap64; omega
end Go.Proofs.Ytehjbhnlbjbhfaa.Dk
-- DkS
namespace Go.Proofs.Ytehjbhnlbjbhfaa.Dk
open Go Go.RowKit Go.Proofs.YtehjbhnlbjbhfaaW.PrintWords Go.Proofs.YtehjbhnlbjbhfaaW.PrintLast Go.Proofs.YtehjbhnlbjbhfaaW.PrintMore
open Go.Proofs.Ytehjbhnlbjbhfaa.PDiskBegins
set_option linter.unusedVariables false
set_option linter.unusedSimpArgs false
def aw0 : DS := newP 100
def aw1 : DS := (appendP aw0 0 [97, 98]).1
def aw2 : DS := (syncP aw1 0).1
def aw3 : DS := (appendP aw2 0 [99, 100]).1
def aw4 : DS := (crashP aw3 [1]).1
def aw5 : DS := (startP aw4).1
def aw6 : DS := (armP aw5 1 []).1
def aw7 : DS := (appendP aw6 0 [120, 121]).1
def aw8 : DS := (startP aw7).1
theorem ea1 : appendP aw0 0 [97, 98] = (aw1, 0) := rfl
theorem ea2 : syncP aw1 0 = (aw2, 0) := rfl
theorem ea3 : appendP aw2 0 [99, 100] = (aw3, 0) := rfl
theorem ea4 : crashP aw3 [1] = (aw4, 0) := rfl
theorem ea5 : startP aw4 = (aw5, 0) := rfl
theorem ea6 : armP aw5 1 [] = (aw6, 0) := rfl
theorem ea7 : appendP aw6 0 [120, 121] = (aw7, 50) := rfl
theorem ea8 : (startP aw7).1 = aw8 := rfl
theorem er5 : readP aw5 0 = ([97, 98, 99], 0) := rfl
theorem er8 : readP aw8 0 = ([97, 98, 99], 0) := rfl
theorem ok0 : Okk aw0 := newP_okk 100 (by decide)
theorem ok1 : Okk aw1 := ok0.append _ _
theorem ok2 : Okk aw2 := ok1.sync _
theorem ok3 : Okk aw3 := ok2.append _ _
theorem ok4 : Okk aw4 := ok3.crash _
theorem ok5 : Okk aw5 := ok4.start
theorem ok6 : Okk aw6 := ok5.arm _ _ (by decide) (fun x hx => by cases hx) (by decide)
theorem ok7 : Okk aw7 := ok6.append _ _
theorem ok8 : Okk aw8 := ok7.start
theorem lit_row {G : Nat → Prop} (k : IntKind) (W : World) (xs : List Int) (e : TypeId) (fr : Nat × Nat) (hG : ∀ b, G b → b < W.heap.size) (hm : xs.length ≤ 9223372036854775807) : Rw G k (W.alloc (.cells (xs.map (Value.int k)).toArray e fr)) (.slice (some ⟨W.heap.size, 0, none⟩) xs.length xs.length) xs := by
  refine Kd.V_mk (Nat.le_refl _) ?_
  intro W' hW
  have h1 := (hW W.heap.size (fun h => by have := hG _ h; omega) (by simp)).trans (blk_new W (.cells (xs.map (Value.int k)).toArray e fr))
  refine ⟨rfl, hm, fun _ => ⟨_, rfl, fun j p hj => ⟨[.int k p], rfl, rfl, fun i u hi => ?_⟩⟩⟩
  have hi0 : i = 0 := by
    have := (List.getElem?_eq_some_iff.1 hi).1
    simp at this; exact this
  subst hi0
  injection hi with hi
  subst hi
  have ha : (⟨W.heap.size, 0, none⟩ : Addr).add (j * (Kd.int k).sz + 0) = ⟨W.heap.size, j, none⟩ := by
    rw [add_at, show (Kd.int k).sz = 1 from rfl]; simp
  rw [ha, cell_of_row W' W.heap.size j _ e fr h1, List.getElem?_toArray, List.getElem?_map, hj]
  rfl
set_option maxHeartbeats 8000000 in
set_option maxRecDepth 100000 in
theorem awake_calls (w : World) : Calls Try.prog 13 #[] w fun e w' => e = .returned (.bool true) ∧ Below w.heap.size w w' := by
  have kc := fun (w : World) (C : Array Value) (n c : Nat) => Lib.run_convert_bytes_const (P := Try.prog) w 32 5 C n c Try.underlying32 Try.underlying5
  go_enter Try.func13, Try.ntmps13
  go_wp2_with (fail)
  refine (New_calls 100 w (by decide) (by decide)).mono ?_
  rintro e w1 ⟨b, rfl, hb, hb1, hB, hI⟩
  have HG := Aside0.mk hb
  have HI := Aside0.mk (show IsD (fun k => k = b) w1 b aw0 from hI (fun k => k = b) (fun k hk => hk ▸ hb1) rfl)
  have HB := Aside0.mk hB
  clear hb hb1 hB hI
  go_wp2_with (fail)
  refine (Append_calls _ b aw0 0 _ [97, 98] _ (HI.out.al (.cells #[.int .u8 97, .int .u8 98] 5 (2, 3))) ok0 (lit_row .u8 w1 [97, 98] 5 (2, 3) HI.out.lt (by decide)) (by decide)).mono ?_
  rintro e w2 ⟨rfl, hI, hW⟩
  rw [ea1] at hI
  rw [show (appendP aw0 0 [97, 98]).2 = 0 from rfl]
  have HI2 := Aside0.mk hI
  have HB2 := Aside0.mk (hW.below (below_alloc HB.out _) HG.out)
  clear hI hW
  go_wp2_with (fail)
  refine (Sync_calls _ b aw1 0 _ HI2.out ok1).mono ?_
  rintro e w3 ⟨rfl, hI, hW⟩
  rw [ea2] at hI
  rw [show (syncP aw1 0).2 = 0 from rfl]
  have HI3 := Aside0.mk hI
  have HB3 := Aside0.mk (hW.below HB2.out HG.out)
  clear hI hW HI2 HB2
  go_wp2_with (fail)
  refine (Append_calls _ b aw2 0 _ [99, 100] _ (HI3.out.al (.cells #[.int .u8 99, .int .u8 100] 5 (2, 3))) ok2 (lit_row .u8 w3 [99, 100] 5 (2, 3) HI3.out.lt (by decide)) (by decide)).mono ?_
  rintro e w4 ⟨rfl, hI, hW⟩
  rw [ea3] at hI
  rw [show (appendP aw2 0 [99, 100]).2 = 0 from rfl]
  have HI4 := Aside0.mk hI
  have HB4 := Aside0.mk (hW.below (below_alloc HB3.out _) HG.out)
  clear hI hW HI3 HB3
  go_wp2_with (fail)
  refine (Crash_calls _ b aw3 _ [1] _ (HI4.out.al (.cells #[.int .i64 1] 3)) ok3 (lit_row .i64 w4 [1] 3 (0, 0) HI4.out.lt (by decide)) (by intro x hx; simp at hx; subst hx; decide)).mono ?_
  rintro e w5 ⟨rfl, hI, hW⟩
  rw [ea4] at hI
  rw [show (crashP aw3 [1]).2 = 0 from rfl]
  have HI5 := Aside0.mk hI
  have HB5 := Aside0.mk (hW.below (below_alloc HB4.out _) HG.out)
  clear hI hW HI4 HB4
  go_wp2_with (fail)
  refine (Start_calls _ b aw4 _ HI5.out).mono ?_
  rintro e w6 ⟨rfl, hI, hW⟩
  rw [ea5] at hI
  rw [show (startP aw4).2 = 0 from rfl]
  have HI6 := Aside0.mk hI
  have HB6 := Aside0.mk (hW.below HB5.out HG.out)
  clear hI hW HI5 HB5
  go_wp2_with (fail)
  refine (Read_calls _ b aw5 0 _ HI6.out ok5.1).mono ?_
  rintro e w7 ⟨v, rfl, hR, hW⟩
  rw [er5] at hR
  rw [show (readP aw5 0).2 = 0 from rfl]
  obtain ⟨A, c, e3⟩ := Kd.R_slice hR
  subst e3
  have HI7 := Aside0.mk (HI6.out.below hW)
  have HB7 := Aside0.mk (below_step HB6.out hW)
  have HR := Aside0.mk hR
  clear hW HI6 HB6 hR
  have hcv : (convert 32 9 (.slice A 3 c)).run Try.prog w7 = .ok (.string (ByteArray.mk #[97, 98, 99])) w7 := (Kd.C_string (P := Try.prog) (A := A) (c := c) Try.underlying32 Try.underlying5 Try.underlying9 (Kd.R_reads' HR.out).2.2).trans rfl
  go_wp2_with (fail)
  clear hcv HR
  refine (Arm_calls _ b aw5 1 _ [] _ HI7.out ok5 (Rw.nil _ _ _) (by decide)).mono ?_
  rintro e w8 ⟨rfl, hI, hW⟩
  rw [ea6] at hI
  rw [show (armP aw5 1 []).2 = 0 from rfl]
  have HI8 := Aside0.mk hI
  have HB8 := Aside0.mk (hW.below HB7.out HG.out)
  clear hI hW HI7 HB7
  go_wp2_with (fail)
  refine (Append_calls _ b aw6 0 _ [120, 121] _ (HI8.out.al (.cells #[.int .u8 120, .int .u8 121] 5 (2, 3))) ok6 (lit_row .u8 w8 [120, 121] 5 (2, 3) HI8.out.lt (by decide)) (by decide)).mono ?_
  rintro e w9 ⟨rfl, hI, hW⟩
  rw [ea7] at hI
  rw [show (appendP aw6 0 [120, 121]).2 = 50 from rfl]
  have HI9 := Aside0.mk hI
  have HB9 := Aside0.mk (hW.below (below_alloc HB8.out _) HG.out)
  clear hI hW HI8 HB8
  go_wp2_with (fail)
  refine (Start_calls _ b aw7 _ HI9.out).mono ?_
  rintro e wa ⟨rfl, hI, hW⟩
  rw [ea8] at hI
  have HIa := Aside0.mk hI
  have HBa := Aside0.mk (hW.below HB9.out HG.out)
  clear hI hW HI9 HB9
  go_wp2_with (fail)
  refine (Read_calls _ b aw8 0 _ HIa.out ok8.1).mono ?_
  rintro e wb ⟨v, rfl, hR, hW⟩
  rw [er8] at hR
  rw [show (readP aw8 0).2 = 0 from rfl]
  obtain ⟨A8, c8, e3⟩ := Kd.R_slice hR
  subst e3
  have HIb := Aside0.mk (HIa.out.below hW)
  have HBb := Aside0.mk (below_step HBa.out hW)
  have HR := Aside0.mk hR
  clear hW HIa HBa hR
  have hcv : (convert 32 9 (.slice A8 3 c8)).run Try.prog wb = .ok (.string (ByteArray.mk #[97, 98, 99])) wb := (Kd.C_string (P := Try.prog) (A := A8) (c := c8) Try.underlying32 Try.underlying5 Try.underlying9 (Kd.R_reads' HR.out).2.2).trans rfl
  go_wp2_with (fail)
  refine (Append_calls _ b aw8 8 _ [] _ HIb.out ok8 (Rw.nil _ _ _) (by decide)).mono ?_
  rintro e wc ⟨rfl, hI, hW⟩
  rw [show (appendP aw8 8 []).2 = 51 from rfl]
  have HBc := Aside0.mk (hW.below HBb.out HG.out)
  clear hI hW HIb HBb hcv
  go_wp2_with (fail)
  go_ret
  exact ⟨rfl, HBc.out⟩
end Go.Proofs.Ytehjbhnlbjbhfaa.Dk
-- DkT
namespace Go.Proofs.Ytehjbhnlbjbhfaa.Dk
open Go Go.RowKit Go.Proofs.YtehjbhnlbjbhfaaW.PrintWords Go.Proofs.YtehjbhnlbjbhfaaW.PrintLast Go.Proofs.YtehjbhnlbjbhfaaW.PrintMore
open Go.Proofs.Ytehjbhnlbjbhfaa.PDiskBegins
set_option linter.unusedVariables false
set_option linter.unusedSimpArgs false
def Small (x : S35) : Prop := x.f3.length ≤ 16384 ∧ x.f4.length ≤ 16384
theorem mn_nn (a : Nat) : 0 ≤ mn (a : Int) 16385 ∧ mn (a : Int) 16385 ≤ 16385 ∧ (mn (a : Int) 16385 ≤ 16384 → a ≤ 16384) := by
  unfold mn
  split <;> omega
def bsum (l : List S35) : Nat := (l.map fun x => x.f3.length).sum
theorem bsum_drop (l : List S35) {i : Nat} (h : i < l.length) : bsum (l.drop i) = (rd_T35 l (i : Int)).f3.length + bsum (l.drop (i + 1)) := by
  unfold bsum rd_T35
  rw [List.drop_eq_getElem_cons h, List.map_cons, List.sum_cons, Int.toNat_natCast, List.getD_eq_getElem?_getD, List.getElem?_eq_getElem h]; rfl
theorem inner (x8 : List (List S35)) (x9 x10 : Int) (l : List S35) (hl : l.length ≤ 9223372036854775807) : ∀ (d i : Nat) (n acts : Int), i + d = l.length → 0 ≤ n → n ≤ 49154 → 0 ≤ acts → acts ≤ 151 →
    ∃ n' acts' : Int, n ≤ n' ∧ n' ≤ 49154 ∧ acts ≤ acts' ∧ acts' ≤ 151 ∧ (n' ≤ 16384 → acts' ≤ 150 → ∀ j, i ≤ j → j < l.length → Small (rd_T35 l (j : Int))) ∧ (n' ≤ 16384 → acts' ≤ 150 → n + (bsum (l.drop i) : Nat) ≤ n') ∧
      ∀ k r, towlinelaw05_short.l0 k n' acts' x8 x9 (wrap64 (x10 + 1)) = some r → ∃ k', towlinelaw05_short.l1 k' n acts l (i : Int) x8 x9 x10 = some r := by
  intro d
  induction d with
  | zero =>
    intro i n acts hi h1 h2 h3 h4
    refine ⟨n, acts, Int.le_refl _, h2, Int.le_refl _, h4, fun _ _ j hj hj2 => by omega, fun _ _ => by rw [List.drop_eq_nil_of_le (by omega)]; simp [bsum], fun k r h => ⟨k + 1, ?_⟩⟩
    simp only [towlinelaw05_short.l1]
    rw [if_neg (by omega)]
    exact h
  | succ d ih =>
    intro i n acts hi h1 h2 h3 h4
    by_cases ca : acts ≤ 150
    · by_cases cn : n ≤ 16384
      · obtain ⟨p1, p2, p3⟩ := mn_nn (rd_T35 l (i : Int)).f3.length
        obtain ⟨q1, q2, q3⟩ := mn_nn (rd_T35 l (i : Int)).f4.length
        have e1 : wrap64 (n + (mn ((rd_T35 l (i : Int)).f3.length : Int) 16385 + mn ((rd_T35 l (i : Int)).f4.length : Int) 16385)) = n + (mn ((rd_T35 l (i : Int)).f3.length : Int) 16385 + mn ((rd_T35 l (i : Int)).f4.length : Int) 16385) := by unfold wrap64; omega
        have e2 : wrap64 (acts + 1) = acts + 1 := by unfold wrap64; omega
        have e3 : wrap64 ((i : Int) + 1) = ((i + 1 : Nat) : Int) := by unfold wrap64; omega
        obtain ⟨n', acts', a1, a2, a3, a4, a5, a7, a6⟩ := ih (i + 1) (n + (mn ((rd_T35 l (i : Int)).f3.length : Int) 16385 + mn ((rd_T35 l (i : Int)).f4.length : Int) 16385)) (acts + 1) (by omega) (by omega) (by omega) (by omega) (by omega)
        refine ⟨n', acts', by omega, a2, by omega, a4, fun b1 b2 j hj hj2 => ?_, fun b1 b2 => ?_, fun k r h => ?_⟩
        · by_cases e : j = i
          · subst e; exact ⟨p3 (by omega), q3 (by omega)⟩
          · exact a5 b1 b2 j (by omega) hj2
        · have hb := a7 b1 b2
          have hd := bsum_drop l (show i < l.length by omega)
          have hm : mn ((rd_T35 l (i : Int)).f3.length : Int) 16385 = ((rd_T35 l (i : Int)).f3.length : Int) := by
            have := p3 (by omega)
            unfold mn; rw [if_neg (by omega)]
          rw [hd]
          omega
        · obtain ⟨k', hk⟩ := a6 k r h
          refine ⟨k' + 1, ?_⟩
          simp only [towlinelaw05_short.l1]
          rw [if_pos (by omega), if_pos ca, if_pos cn, if_pos (by omega), e1, e2, e3]
          exact hk
      · refine ⟨n, acts, Int.le_refl _, h2, Int.le_refl _, h4, fun b _ => absurd b cn, fun b _ => absurd b cn, fun k r h => ⟨k + 1, ?_⟩⟩
        simp only [towlinelaw05_short.l1]
        rw [if_pos (by omega), if_pos ca, if_neg cn]
        exact h
    · refine ⟨n, acts, Int.le_refl _, h2, Int.le_refl _, h4, fun _ b => absurd b ca, fun _ b => absurd b ca, fun k r h => ⟨k + 1, ?_⟩⟩
      simp only [towlinelaw05_short.l1]
      rw [if_pos (by omega), if_neg ca]
      exact h
end Go.Proofs.Ytehjbhnlbjbhfaa.Dk
-- DkU
namespace Go.Proofs.Ytehjbhnlbjbhfaa.Dk
open Go Go.RowKit Go.Proofs.YtehjbhnlbjbhfaaW.PrintWords Go.Proofs.YtehjbhnlbjbhfaaW.PrintLast Go.Proofs.YtehjbhnlbjbhfaaW.PrintMore
open Go.Proofs.Ytehjbhnlbjbhfaa.PDiskBegins
set_option linter.unusedVariables false
end Go.Proofs.Ytehjbhnlbjbhfaa.Dk
-- DkV
namespace Go.Proofs.Ytehjbhnlbjbhfaa.Dk
open Go Go.RowKit Go.Proofs.YtehjbhnlbjbhfaaW.PrintWords Go.Proofs.YtehjbhnlbjbhfaaW.PrintLast Go.Proofs.YtehjbhnlbjbhfaaW.PrintMore
open Go.Proofs.Ytehjbhnlbjbhfaa.PDiskBegins
set_option linter.unusedVariables false
theorem able_on {s : DS} {j : Nat} (hj : j < 8) (hr : s.room ≠ 0) (ho : s.off = false) : ableP s (j : Int) = 0 := by
  unfold ableP
  rw [if_neg hr, ho, if_neg (by decide), if_neg (show ¬ ((j : Int) < 0 ∨ 8 ≤ (j : Int)) by omega)]
end Go.Proofs.Ytehjbhnlbjbhfaa.Dk
-- TpB
namespace Go.Proofs.Ytehjbhnlbjbhfaa.Tp
open Go Go.RowKit Go.Proofs.YtehjbhnlbjbhfaaW.PrintWords Go.Proofs.YtehjbhnlbjbhfaaW.PrintLast Go.Proofs.YtehjbhnlbjbhfaaW.PrintMore Go.Proofs.Ytehjbhnlbjbhfaa.Wire Go.Proofs.Ytehjbhnlbjbhfaa.Wk Go.Proofs.Ytehjbhnlbjbhfaa.Dk
open Go.Proofs.Ytehjbhnlbjbhfaa.PTapePlays
set_option linter.unusedVariables false
theorem psum_l1 (s : List Int) (x8 x9 : Int) : ∀ (n j k : Nat) (c : Nat), c < 4294967296 → j + n = 8 → n < k → wire_Sum.l1 k (c : Int) s x8 x9 (j : Int) = wire_Sum.l0 (k - n - 1) ((bitsS n c : Nat) : Int) s x8 (wrap64 (x9 + 1)) := by
  intro n
  induction n with
  | zero =>
    intro j k c hc hj hk
    obtain ⟨k, rfl⟩ : ∃ k', k = k' + 1 := ⟨k - 1, by omega⟩
    simp only [wire_Sum.l1]
    rw [if_neg (by omega)]
    rfl
  | succ n ih =>
    intro j k c hc hj hk
    obtain ⟨k, rfl⟩ : ∃ k', k = k' + 1 := ⟨k - 1, by omega⟩
    simp only [wire_Sum.l1]
    rw [if_pos (by omega), bit_w c hc, show wrap64 ((j : Int) + 1) = ((j + 1 : Nat) : Int) by unfold wrap64; omega, ih (j + 1) k (bitS c) (bitS_lt hc) (by omega) (by omega), show k + 1 - (n + 1) - 1 = k - n - 1 by omega]
    rfl
theorem psum_l0 (s : List Int) (hs : Bs s) (hlen : s.length < 140737488355328) : ∀ (r : List Int) (i k c : Nat), s.drop i = r → c < 4294967296 → i ≤ s.length → 10 * r.length < k → wire_Sum.l0 k (c : Int) s (s.length : Int) (i : Int) = some ((4294967295 ^^^ crc r c : Nat) : Int) := by
  intro r
  induction r with
  | nil =>
    intro i k c hd hc hi hk
    obtain ⟨k, rfl⟩ : ∃ k', k = k' + 1 := ⟨k - 1, by omega⟩
    have h0 := List.drop_eq_nil_iff.1 hd
    simp only [wire_Sum.l0]
    rw [if_neg (by omega), show (4294967295 : Int) = ((4294967295 : Nat) : Int) from rfl, u32_xor_nat _ _ (by decide) hc]
    rfl
  | cons x r ih =>
    intro i k c hd hc hi hk
    obtain ⟨hx, hlt, hmem, hd2⟩ := rd_drop hd
    obtain ⟨hx0, hx1⟩ := hs x hmem
    obtain ⟨b, rfl⟩ := Int.eq_ofNat_of_zero_le hx0
    rw [List.length_cons] at hk
    obtain ⟨k, rfl⟩ : ∃ k', k = k' + 1 := ⟨k - 1, by omega⟩
    simp only [wire_Sum.l0]
    rw [if_pos (by omega), if_pos (by omega), if_pos (by omega), hx, show (b : Int) % 4294967296 = (b : Int) by omega, u32_xor_nat _ _ hc (by omega)]
    have h1 := psum_l1 s (s.length : Int) (i : Int) 8 0 k (c ^^^ b) (xor_lt hc (by omega)) rfl (by omega)
    refine h1.trans ?_
    clear h1
    rw [show wrap64 ((i : Int) + 1) = ((i + 1 : Nat) : Int) by unfold wrap64; omega]
    exact ih (i + 1) _ _ hd2 (bitsS_lt 8 _ (xor_lt hc (by omega))) (by omega) (by omega)
theorem psum (s : List Int) (hs : Bs s) (hlen : s.length < 140737488355328) (k : Nat) (hk : 10 * s.length < k) : wire_Sum.f k s = some (sumP s) := psum_l0 s hs hlen s 0 k 4294967295 rfl (by decide) (Nat.zero_le _) hk
theorem pput (l ns : List Int) (h0 : ns ≠ []) (h1 : ∀ x ∈ ns, 0 ≤ x ∧ x < 18446744073709551616) (h2 : l.length + 10 * ns.length < 140737488355328) : wire_Put.f l ns = some (l ++ Wire.encs ns) := by
  unfold wire_Put.f; rw [if_pos ⟨h0, u64s_iff.2 h1, h2⟩]
theorem pputb (l b : List Int) (h : l.length + b.length + 20 < 140737488355328) : wire_PutBytes.f l b = some (l ++ recP b) := by
  have hw : IntKind.u64.wrap (b.length : Int) = (b.length : Int) := by rw [u64w]; omega
  have hes : Wire.encs [(b.length : Int)] = enc 9 b.length := by simp [Wire.encs]
  have hen := enc_len 9 b.length
  unfold wire_PutBytes.f
  rw [hw, pput l _ (by simp) (by simp; omega) (by simp only [List.length_singleton]; omega), Option.bind_some, hes, if_pos (by rw [List.length_append]; omega)]
  unfold recP
  rw [List.append_assoc]
theorem pseal (l : List Int) (hb : Bs l) (k : Nat) (hk : 90000 < k) : wire_Seal.f k l = some (sealE l) := by
  unfold sealE
  by_cases h : 8192 < l.length
  · unfold wire_Seal.f; rw [if_pos (by omega), if_pos h]
  · rw [if_neg h]
    have hr := rec_len l (by omega)
    unfold wire_Seal.f wire_four.f
    rw [if_neg (by omega), pputb [] l (by simp only [List.length_nil]; omega), List.nil_append, Option.bind_some, psum _ (rec_bs hb (by omega)) (by omega) _ (by omega), Option.bind_some, Option.bind_some, if_pos (by simp only [List.length_cons, List.length_nil]; omega)]
    rfl
theorem encs_bs {l : List Int} (h : ∀ x ∈ l, 0 ≤ x ∧ x < 18446744073709551616) : Bs (Wire.encs l) := by
  intro x hx
  obtain ⟨n, hn, hx⟩ := List.mem_flatMap.1 hx
  exact enc64_bs (by have := h n hn; omega) x hx
theorem phead (gen many : Int) (b : List Int) (hb : Bs b) (hg : 0 ≤ gen ∧ gen < 9223372036854775808) (hm : 0 ≤ many ∧ many < 9223372036854775808) (hl : b.length < 70368744177664) (k : Nat) (hk : 90000 < k) : tape_head.f k gen many b = some (headE gen many b) := by
  have e1 : IntKind.u64.wrap gen = gen := by rw [u64w]; omega
  have e2 : IntKind.u64.wrap many = many := by rw [u64w]; omega
  have hn : ∀ x ∈ [gen, many], (0 : Int) ≤ x ∧ x < 18446744073709551616 := by
    intro x hx
    rcases List.mem_cons.1 hx with rfl | hx
    · omega
    · rcases List.mem_cons.1 hx with rfl | hx
      · omega
      · cases hx
  have hen := encs_len [gen, many]
  simp only [List.length_cons, List.length_nil] at hen
  unfold tape_head.f headE
  rw [e1, e2, pput [] _ (by simp) hn (by simp only [List.length_cons, List.length_nil]; omega), Option.bind_some, List.nil_append, pputb _ _ (by omega), Option.bind_some, pseal _ ((encs_bs hn).app (rec_bs hb (by omega))) k hk, Option.bind_some]
theorem Seal_calls (A0 : Option Addr) (c0 : Nat) (l0 : List Int) (w : World) (hr0 : Kd.C (Kd.int .u8) w A0 l0.length l0) (hc0 : l0.length ≤ c0) (hb : Bs l0) :
    Calls Try.prog 61 #[.slice A0 l0.length c0] w fun e w' => ∃ v, e = .returned (.tuple #[v, .int .i64 (sealE l0).2]) ∧ Kd.R (Kd.int .u8) 5 w' w.heap.size (fun _ => True) v (sealE l0).1 ∧ Below w.heap.size w w' :=
  wire_Seal.calls 90001 A0 c0 l0 (sealE l0).1 (sealE l0).2 w hr0 hc0 (pseal l0 hb 90001 (by decide))
theorem head_calls (gen many : Int) (A0 : Option Addr) (c0 : Nat) (l0 : List Int) (w : World) (hr0 : Kd.C (Kd.int .u8) w A0 l0.length l0) (hc0 : l0.length ≤ c0) (hb : Bs l0) (hg : 0 ≤ gen ∧ gen < 9223372036854775808) (hm : 0 ≤ many ∧ many < 9223372036854775808) (hl : l0.length < 70368744177664) :
    Calls Try.prog 62 #[.int .i64 gen, .int .i64 many, .slice A0 l0.length c0] w fun e w' => ∃ v, e = .returned (.tuple #[v, .int .i64 (headE gen many l0).2]) ∧ Kd.R (Kd.int .u8) 5 w' w.heap.size (fun _ => True) v (headE gen many l0).1 ∧ Below w.heap.size w w' :=
  tape_head.calls 90001 gen many A0 c0 l0 (headE gen many l0).1 (headE gen many l0).2 w hr0 hc0 (phead gen many l0 hb hg hm hl 90001 (by decide))
end Go.Proofs.Ytehjbhnlbjbhfaa.Tp
-- TpC
namespace Go.Proofs.Ytehjbhnlbjbhfaa.Tp
open Go Go.RowKit Go.Proofs.YtehjbhnlbjbhfaaW.PrintWords Go.Proofs.YtehjbhnlbjbhfaaW.PrintLast Go.Proofs.YtehjbhnlbjbhfaaW.PrintMore Go.Proofs.Ytehjbhnlbjbhfaa.Wire Go.Proofs.Ytehjbhnlbjbhfaa.Wk Go.Proofs.Ytehjbhnlbjbhfaa.Dk
open Go.Proofs.Ytehjbhnlbjbhfaa.PTapePlays
set_option linter.unusedVariables false
def Rs (G : Nat → Prop) (W : World) (v : Value) (ls : List (List Int)) : Prop := Kd.V KdB 0 W 0 (fun b => ¬ G b) v ls
abbrev tapeCells (x : TS) (bV lV : Value) (g : Nat) : Array Value := #[.int .i64 x.r.gen, bV, lV, .pointer (some ⟨g, 0, none⟩), .int .i64 (x.file : Int), .int .i64 (x.kept : Int)]
structure IsT (G : Nat → Prop) (W : World) (t g : Nat) (x : TS) : Prop where
  gt : G t
  ex : ∃ bV lV, W.heap[t]? = some (.cells (tapeCells x bV lV g) 50 (0, 0)) ∧ Rw G .u8 W bV x.r.base ∧ Rs G W lV x.r.l
structure Ws (P : Nat → Prop) (w w' : World) : Prop where
  os : w'.os = w.os
  tape : w'.tape = w.tape
  output : w'.output = w.output
  size : w.heap.size ≤ w'.heap.size
  block : ∀ i, i < w.heap.size → ¬ P i → w'.heap[i]? = w.heap[i]?
theorem Ws.refl (P : Nat → Prop) (w : World) : Ws P w w := ⟨rfl, rfl, rfl, Nat.le_refl _, fun _ _ _ => rfl⟩
theorem Ws.trans {P : Nat → Prop} {w w1 w2 : World} (h : Ws P w w1) (k : Ws P w1 w2) : Ws P w w2 :=
  ⟨k.os.trans h.os, k.tape.trans h.tape, k.output.trans h.output, Nat.le_trans h.size k.size, fun i hi hne => (k.block i (Nat.lt_of_lt_of_le hi h.size) hne).trans (h.block i hi hne)⟩
theorem Ws.mono {P P' : Nat → Prop} {w w1 : World} (h : Ws P w w1) (hp : ∀ b, b < w.heap.size → P b → P' b) : Ws P' w w1 := ⟨h.os, h.tape, h.output, h.size, fun i hi hn => h.block i hi (fun hP => hn (hp i hi hP))⟩
theorem Ws.of_below {P : Nat → Prop} {w w1 : World} (h : Below w.heap.size w w1) : Ws P w w1 := ⟨h.os, h.tape, h.output, h.size, fun i hi _ => h.block i hi⟩
theorem Ws.of_wr {P : Nat → Prop} {g : Nat} {w w1 : World} (h : Wr g w w1) (hg : P g) : Ws P w w1 := ⟨h.os, h.tape, h.output, h.size, fun i hi hn => h.block i hi (fun e => hn (e ▸ hg))⟩
theorem Ws.of_set {P : Nat → Prop} (w : World) {t : Nat} (hP : P t) (j : Nat) (u : Value) : Ws P w (w.setCell ⟨t, j, none⟩ u) := Ws.of_wr ((Wr.refl t w).set j u) hP
theorem Ws.below {P : Nat → Prop} {w0 w w1 : World} (h : Ws P w w1) (hb : Below w0.heap.size w0 w) (hP : ∀ b, P b → w0.heap.size ≤ b) : Below w0.heap.size w0 w1 :=
  ⟨h.os.trans hb.os, h.tape.trans hb.tape, h.output.trans hb.output, Nat.le_trans hb.size h.size, fun i hi => (h.block i (Nat.lt_of_lt_of_le hi hb.size) (fun hp => by have := hP i hp; omega)).trans (hb.block i hi)⟩
theorem Ws.cell {P : Nat → Prop} {w w' : World} (h : Ws P w w') {b o : Nat} {v : Value} (hc : w.cell? ⟨b, o, none⟩ = some v) (hne : ¬ P b) : w'.cell? ⟨b, o, none⟩ = some v := by
  have := h.block b (World.block_lt_of_cell? w ⟨b, o, none⟩ hc) hne
  simpa [World.cell?, this] using hc
theorem Rw.ws {G P : Nat → Prop} {k : IntKind} {W W' : World} {v : Value} {xs : List Int} (h : Rw G k W v xs) (hw : Ws P W W') (hg : ∀ b, P b → G b) : Rw G k W' v xs := h.step (fun b hb hlt => hw.block b hlt (fun e => hb (hg b e)))
theorem Rs.nil (G : Nat → Prop) (W : World) : Rs G W (.slice none 0 0) [] := Kd.V_nil _ _ _ _ _
theorem Rs.ws {G P : Nat → Prop} {W W' : World} {v : Value} {xs : List (List Int)} (h : Rs G W v xs) (hw : Ws P W W') (hg : ∀ b, P b → G b) : Rs G W' v xs := Kd.V_step h (fun b hb hlt => hw.block b hlt (fun e => hb (hg b e)))
theorem Rs.below {G : Nat → Prop} {W W' : World} {v : Value} {xs : List (List Int)} (h : Rs G W v xs) (hw : Below W.heap.size W W') : Rs G W' v xs := Kd.V_below h hw
theorem Rs.grow {G G' : Nat → Prop} {W : World} {v : Value} {xs : List (List Int)} (h : Rs G W v xs) (hg : ∀ b, b < W.heap.size → G' b → G b) : Rs G' W v xs := Kd.V_mono (Kd.V_bound h) (fun b hb hG => hb.1 (hg b hb.2 hG))
theorem Rs.slice {G : Nat → Prop} {W : World} {v : Value} {xs : List (List Int)} (h : Rs G W v xs) : ∃ A c, v = .slice A xs.length c ∧ xs.length ≤ c ∧ Kd.C KdB W A xs.length xs := by
  obtain ⟨A, c, rfl⟩ := Kd.V_slice h
  exact ⟨A, c, rfl, (Kd.V_reads' h).2.1, (Kd.V_reads' h).2.2⟩
theorem Rs.of_R {G : Nat → Prop} {e : Nat} {W W0 : World} {v : Value} {xs : List (List Int)} (h : Kd.R KdB e W W0.heap.size (fun _ => True) v xs) (hG : ∀ b, G b → b < W0.heap.size) : Rs G W v xs :=
  show Kd.V KdB e W 0 (fun b => ¬ G b) v xs from Kd.R_V (Kd.R_mono (Kd.R_bound h) (fun b hb hg => by have := hb.2.1; have := hG b hg; omega))
theorem IsD.ws {G P : Nat → Prop} {g : Nat} {W W' : World} {s : DS} (h : IsD G W g s) (hw : Ws P W W') (hg : ∀ b, P b → G b) (hne : ¬ P g) : IsD G W' g s := by
  obtain ⟨h1, h2, d, hA, hR⟩ := h
  exact ⟨fun b hb => Nat.lt_of_lt_of_le (h1 b hb) hw.size, h2, d, hA.same (hw.block g (h1 g h2) hne), hR.1, hR.2.1, Rw.ws hR.2.2.1 hw hg, hR.2.2.2.1, hR.2.2.2.2.1, hR.2.2.2.2.2.1, fun i hi => ⟨Rw.ws (hR.2.2.2.2.2.2 i hi).1 hw hg, Rw.ws (hR.2.2.2.2.2.2 i hi).2.1 hw hg, (hR.2.2.2.2.2.2 i hi).2.2⟩⟩
theorem IsT.lt {G : Nat → Prop} {W : World} {t g : Nat} {x : TS} (h : IsT G W t g x) : t < W.heap.size := by
  obtain ⟨_, bV, lV, hb, _⟩ := h
  exact blk_lt hb
theorem IsT.ws {G P : Nat → Prop} {W W' : World} {t g : Nat} {x : TS} (h : IsT G W t g x) (hw : Ws P W W') (hg : ∀ b, P b → G b) (hne : ¬ P t) : IsT G W' t g x := by
  have hlt := h.lt
  obtain ⟨h1, bV, lV, hb, hB, hL⟩ := h
  exact ⟨h1, bV, lV, (hw.block t hlt hne).trans hb, Rw.ws hB hw hg, hL.ws hw hg⟩
theorem IsT.below {G : Nat → Prop} {W W' : World} {t g : Nat} {x : TS} (h : IsT G W t g x) (hw : Below W.heap.size W W') : IsT G W' t g x := h.ws (P := fun _ => False) (Ws.of_below hw) (fun _ h => h.elim) (fun h => h)
theorem IsT.wr {G : Nat → Prop} {W W' : World} {t g d : Nat} {x : TS} (h : IsT G W t d x) (hw : Wr g W W') (hg : G g) (hne : g ≠ t) : IsT G W' t d x := h.ws (P := fun b => b = g) (Ws.of_wr hw rfl) (fun b e => e ▸ hg) (fun e => hne e.symm)
theorem IsT.grow {G G' : Nat → Prop} {W : World} {t g : Nat} {x : TS} (h : IsT G W t g x) (hg : G' t) (hs : ∀ k, k < W.heap.size → G' k → G k) : IsT G' W t g x := by
  obtain ⟨h1, bV, lV, hb, hB, hL⟩ := h
  exact ⟨hg, bV, lV, hb, hB.grow hs, hL.grow hs⟩
theorem IsT.dr {G : Nat → Prop} {W : World} {t g : Nat} {x : TS} (h : IsT G W t g x) : IsT G W.drew t g x := h.below (below_drew1 (Below.refl _ _))
theorem IsT.drN {G : Nat → Prop} {W : World} {t g : Nat} {x : TS} (h : IsT G W t g x) (n : Nat) : IsT G (W.drewN n) t g x := h.below (pw_below_drewN (Below.refl _ _) n)
theorem IsT.al {G : Nat → Prop} {W : World} {t g : Nat} {x : TS} (h : IsT G W t g x) (o : Obj) : IsT G (W.alloc o) t g x := h.below (below_alloc (Below.refl _ _) o)
theorem dead_calls (G : Nat → Prop) (t g : Nat) (x : TS) (w : World) (h : IsT G w t g x) : Calls Try.prog 60 #[.pointer (some ⟨t, 0, none⟩)] w fun e w' => e = .returned (.bool false) ∧ Drawn0 w w' := by
  obtain ⟨_, bV, lV, hb, _⟩ := h
  have hc_3 : w.cell? ⟨t, 3, none⟩ = some (.pointer (some ⟨g, 0, none⟩)) := (blk_cell hb 3).trans rfl
  clear hb
  go_enter Try.func60, Try.ntmps60
  go_wp2
  go_ret
  exact ⟨rfl, 0, rfl⟩
theorem Len_calls (G : Nat → Prop) (t g : Nat) (x : TS) (w : World) (h : IsT G w t g x) : Calls Try.prog 27 #[.pointer (some ⟨t, 0, none⟩)] w fun e w' => e = .returned (.int .i64 (x.r.l.length : Int)) ∧ Drawn0 w w' := by
  have HD := Aside0.mk (dead_calls G t g x w h)
  obtain ⟨_, bV, lV, hb, hB, hL⟩ := h
  obtain ⟨A, c, rfl, _⟩ := hL.slice
  have hc_2 : w.cell? ⟨t, 2, none⟩ = some (.slice A x.r.l.length c) := (blk_cell hb 2).trans rfl
  clear hb hB hL
  go_enter Try.func27, Try.ntmps27
  go_wp2_with (fail)
  refine HD.out.mono ?_
  rintro e w1 ⟨rfl, ⟨n0, rfl⟩⟩
  go_wp2
  go_ret
  exact ⟨rfl, n0, rfl⟩
theorem Kept_calls (G : Nat → Prop) (t g : Nat) (x : TS) (w : World) (h : IsT G w t g x) : Calls Try.prog 28 #[.pointer (some ⟨t, 0, none⟩)] w fun e w' => e = .returned (.int .i64 (x.kept : Int)) ∧ Drawn0 w w' := by
  have HD := Aside0.mk (dead_calls G t g x w h)
  obtain ⟨_, bV, lV, hb, hB, hL⟩ := h
  have hc_5 : w.cell? ⟨t, 5, none⟩ = some (.int .i64 (x.kept : Int)) := (blk_cell hb 5).trans rfl
  clear hb hB hL
  go_enter Try.func28, Try.ntmps28
  go_wp2_with (fail)
  refine HD.out.mono ?_
  rintro e w1 ⟨rfl, ⟨n0, rfl⟩⟩
  go_wp2
  go_ret
  exact ⟨rfl, n0, rfl⟩
theorem Base_calls (G : Nat → Prop) (t g : Nat) (x : TS) (w : World) (h : IsT G w t g x) (hl : x.r.base.length < 1000000000) : Calls Try.prog 29 #[.pointer (some ⟨t, 0, none⟩)] w fun e w' => ∃ v, e = .returned v ∧ Kd.R (Kd.int .u8) 5 w' w.heap.size (fun _ => True) v x.r.base ∧ Below w.heap.size w w' := by
  have HD := Aside0.mk (dead_calls G t g x w h)
  have HL := Aside0.mk hl
  obtain ⟨_, bV, lV, hb, hB, hL⟩ := h
  obtain ⟨A, c, rfl, hcc, hC⟩ := hB.slice
  have hc_1 : w.cell? ⟨t, 1, none⟩ = some (.slice A x.r.base.length c) := (blk_cell hb 1).trans rfl
  have HC := Aside0.mk (And.intro hcc hC)
  clear hb hB hL hcc hC hl
  go_enter Try.func29, Try.ntmps29
  go_wp2_with (fail)
  refine HD.out.mono ?_
  rintro e w1 ⟨rfl, ⟨n0, rfl⟩⟩
  go_wp2_with (fail)
  refine (Clone_b A c _ _ (Kd.C_drewN HC.out.2 n0) HC.out.1 (by have := HL.out; omega)).mono ?_
  rintro e w2 ⟨v, rfl, hR2, hB2⟩
  have HR2 := Aside0.mk hR2
  have HB2 := Aside0.mk hB2
  clear hR2 hB2
  go_wp2
  go_ret
  exact ⟨_, rfl, Kd.R_lower HR2.out (Nat.le_refl _), below_step (pw_below_drewN (Below.refl _ _) n0) HB2.out⟩
set_option maxRecDepth 100000 in
theorem At_calls (G : Nat → Prop) (t g : Nat) (x : TS) (i : Nat) (w : World) (h : IsT G w t g x) (hi : i < x.r.l.length) (hn : x.r.l.length < 1000000000) (hl : (x.r.l.getD i []).length < 1000000000) : Calls Try.prog 23 #[.pointer (some ⟨t, 0, none⟩), .int .i64 (i : Int)] w fun e w' => ∃ v, e = .returned (.tuple #[v, .bool true]) ∧ Kd.R (Kd.int .u8) 5 w' w.heap.size (fun _ => True) v (x.r.l.getD i []) ∧ Below w.heap.size w w' := by
  have HD := Aside0.mk (dead_calls G t g x w h)
  have HL := Aside0.mk hl
  have HN := Aside0.mk hn
  obtain ⟨_, bV, lV, hb, hB, hL⟩ := h
  obtain ⟨A, c, rfl, hcc, hC⟩ := hL.slice
  have hc_2 : w.cell? ⟨t, 2, none⟩ = some (.slice A x.r.l.length c) := (blk_cell hb 2).trans rfl
  obtain ⟨ad, A1, c1, rfl, hcc1, hC1, hel⟩ := bb_get hC i hi
  generalize x.r.l.getD i [] = D at *
  have HC := Aside0.mk (And.intro hcc1 hC1)
  have h0 : (0 : Int) ≤ (i : Int) := by omega
  have h1 : (i : Int) < (x.r.l.length : Int) := by omega
  have d0 : decide ((i : Int) < 0) = false := decide_eq_false (by omega)
  have d1 : decide ((i : Int) ≥ (x.r.l.length : Int)) = false := decide_eq_false (by omega)
  have hel2 : w.cell? (ad.add ((i : Int).toNat * 1)) = some (.slice A1 D.length c1) := by rw [Int.toNat_natCast, Nat.mul_one]; exact hel
  clear hb hB hL hcc hC hl hn hcc1 hC1
  go_enter Try.func23, Try.ntmps23
  go_wp2_with (fail)
  refine HD.out.mono ?_
  rintro e w1 ⟨rfl, ⟨n0, rfl⟩⟩
  go_wp2_with (fail)
  refine (Clone_b A1 c1 _ _ (Kd.C_drewN HC.out.2 n0) HC.out.1 (by have := HL.out; omega)).mono ?_
  rintro e w2 ⟨v, rfl, hR2, hB2⟩
  have HR2 := Aside0.mk hR2
  have HB2 := Aside0.mk hB2
  clear hR2 hB2
  go_wp2
  go_ret2
  exact ⟨_, rfl, Kd.R_lower HR2.out (Nat.le_refl _), below_step (pw_below_drewN (Below.refl _ _) n0) HB2.out⟩
end Go.Proofs.Ytehjbhnlbjbhfaa.Tp
