/- Texts that the row of LawTapeRefused rests on, part 2 of 6: contracts of the functions, their walks, plain laws. -/
import Derived.Test.YtehjbhnlbjbhfaaBnTapeRefused1
import Derived.Test.YtehjbhnlbjbhfaaProg
import Derived.Below
import Derived.Deep.Draws
import Derived.Deep.AppendLies
import Derived.Maps.AppendAt
import Derived.OwnWalk
import Derived.Laws.BytesArg
import Derived.Laws.MakeOwn
import Derived.Laws.OwnMore
import Derived.Deep.OwnRows
import Derived.Tactics
import Derived.Lib.ConvBytes
import Derived.Laws.Slices
import Derived.WalkKit
import Derived.KernelRfl
import Derived.RowKit3
import Derived.Deep.LoopGhost
import Derived.Deep.QuietTactic
import Derived.BigQuiet
import Derived.WideLaws
import Derived.Deep.DeepCutAuto
import Derived.Deep.CutBlock
import Derived.Deep.RegionHeld3
import Derived.Laws.Rows
import Derived.Lib.AppendStr
import Derived.ArgAppend
import Derived.Laws.IdiomCopy
import Derived.OrdersHeld
import Derived.Laws.BitsLemmas
import Derived.RowKit
import Derived.Lib.SliceRun
import Derived.Outline
import Derived.Laws.Bits64b
import Derived.Laws.BitsAllLaws
import Derived.Laws.DeepNot64
-- WBase
namespace Go.Proofs.Ytehjbhnlbjbhfaa.WBase
open Go.RowKit Go.Proofs.YtehjbhnlbjbhfaaW.PrintWords Go.Proofs.YtehjbhnlbjbhfaaW.PrintLast Go.Proofs.YtehjbhnlbjbhfaaW.PrintMore
set_option linter.unusedVariables false
set_option linter.unusedSimpArgs false
def errW : Option Int → Value
  | none => .nilIface
  | some c => .iface 0 (.int .i64 c)
theorem errW_none : errW none = .nilIface := rfl
theorem errW_some (c : Int) : errW (some c) = .iface 0 (.int .i64 c) := rfl
theorem info5 : (Try.prog.info? 5).map (fun i => (i.zero, i.size, i.bytes)) = some (some (.int .u8 0), 1, 1) := by kernel_rfl
end Go.Proofs.Ytehjbhnlbjbhfaa.WBase
namespace Go.Proofs.Ytehjbhnlbjbhfaa.WBase
open Go.RowKit Go.Proofs.YtehjbhnlbjbhfaaW.PrintWords Go.Proofs.YtehjbhnlbjbhfaaW.PrintLast Go.Proofs.YtehjbhnlbjbhfaaW.PrintMore
set_option linter.unusedVariables false
set_option linter.unusedSimpArgs false
def bytes_Equal.f (l0 : List Int) (l1 : List Int) : Option (Bool) := some ((strOfNums l0).toList == (strOfNums l1).toList)
set_option maxHeartbeats 8000000 in
set_option maxRecDepth 100000 in
theorem bytes_Equal.calls (A0 : Option Addr) (c0 : Nat) (l0 : List Int) (A1 : Option Addr) (c1 : Nat) (l1 : List Int) (r : Bool) (w : World) (hr0 : Kd.C (Kd.int .u8) w A0 l0.length l0) (hc0 : l0.length ≤ c0) (hr1 : Kd.C (Kd.int .u8) w A1 l1.length l1) (hc1 : l1.length ≤ c1) (h : bytes_Equal.f l0 l1 = some r) :
    Calls Try.prog 22 #[.slice A0 l0.length c0, .slice A1 l1.length c1] w fun e w' => e = .returned (.bool r) ∧ Drawn0 w w' := by
  have HR0 := Aside0.mk hr0
  have HC0 := Aside0.mk hc0
  clear hr0 hc0
  have HR1 := Aside0.mk hr1
  have HC1 := Aside0.mk hc1
  clear hr1 hc1
  have H : (some ((strOfNums l0).toList == (strOfNums l1).toList)) = some r := h
  clear h
  obtain rfl := Option.some.inj H
  have hcv3 := Kd.C_string (P := Try.prog) (A := A0) (c := c0) Try.underlying32 Try.underlying5 Try.underlying9 HR0.out
  have hcv4 := Kd.C_string (P := Try.prog) (A := A1) (c := c1) Try.underlying32 Try.underlying5 Try.underlying9 HR1.out
  go_enter Try.func22, Try.ntmps22
  go_wp2
  go_ret
  exact ⟨by first | rfl | (simp; done) | (simp [*]; done), by repeat (first | exact Drawn0.refl _ | apply Drawn0.step)⟩
mutual
def wire_Sum.l0 : Nat → Int → List Int → Int → Int → Option (Int)
  | 0, _, _, _, _ => none
  | k + 1, x3, x7, x8, x9 => if x9 < x8 then (if 0 ≤ x9 then (if x9 < (x7.length : Int) then (wire_Sum.l1 k (Go.bits .xor .u32 x3 ((rd x7 x9) % 4294967296)) x7 x8 x9 0) else (none)) else (none)) else (some (Go.bits .xor .u32 4294967295 x3))
def wire_Sum.l1 : Nat → Int → List Int → Int → Int → Int → Option (Int)
  | 0, _, _, _, _, _ => none
  | k + 1, x3, x7, x8, x9, x17 => if x17 < 8 then (wire_Sum.l1 k (Go.bits .xor .u32 (x3 / 2) (Go.bits .and .u32 2197175160 ((-(Go.bits .and .u32 x3 1)) % 4294967296))) x7 x8 x9 (wrap64 (x17 + 1))) else (wire_Sum.l0 k x3 x7 x8 (wrap64 (x9 + 1)))
end
def wire_Sum.f (k : Nat) (l0 : List Int) : Option (Int) := wire_Sum.l0 k 4294967295 l0 (l0.length : Int) 0
theorem wire_Sum.mono_l : ∀ k, (∀ y0 y1 y2 y3, LeO (wire_Sum.l0 k y0 y1 y2 y3) (wire_Sum.l0 (k + 1) y0 y1 y2 y3)) ∧ (∀ y0 y1 y2 y3 y4, LeO (wire_Sum.l1 k y0 y1 y2 y3 y4) (wire_Sum.l1 (k + 1) y0 y1 y2 y3 y4))
  | 0 => ⟨fun _ _ _ _ r h => by simp [wire_Sum.l0] at h, fun _ _ _ _ _ r h => by simp [wire_Sum.l1] at h⟩
  | k + 1 => by
    obtain ⟨ih0, ih1⟩ := wire_Sum.mono_l k
    refine ⟨?_, ?_⟩
    · intro y0 y1 y2 y3
      unfold wire_Sum.l0
      repeat' first
      | (with_reducible exact ih0 _ _ _ _)
      | (with_reducible exact ih1 _ _ _ _ _)
      | (with_reducible exact LeO.refl _)
      | (with_reducible exact LeO.none _)
      | (with_reducible refine LeO.ite ?_ ?_)
      | (with_reducible refine LeO.bind ?_ (fun _ => ?_))
      | exact ih0 _ _ _ _
      | exact ih1 _ _ _ _ _
      | exact LeO.none _
      | refine LeO.ite ?_ ?_
      | refine LeO.bind ?_ (fun _ => ?_)
    · intro y0 y1 y2 y3 y4
      unfold wire_Sum.l1
      repeat' first
      | (with_reducible exact ih0 _ _ _ _)
      | (with_reducible exact ih1 _ _ _ _ _)
      | (with_reducible exact LeO.refl _)
      | (with_reducible exact LeO.none _)
      | (with_reducible refine LeO.ite ?_ ?_)
      | (with_reducible refine LeO.bind ?_ (fun _ => ?_))
      | exact ih0 _ _ _ _
      | exact ih1 _ _ _ _ _
      | exact LeO.none _
      | refine LeO.ite ?_ ?_
      | refine LeO.bind ?_ (fun _ => ?_)
theorem wire_Sum.mono : ∀ a0 k, LeO (wire_Sum.f k a0) (wire_Sum.f (k + 1) a0) := by
  intro a0 k
  obtain ⟨ih0, ih1⟩ := wire_Sum.mono_l k
  unfold wire_Sum.f
  repeat' first
      | (with_reducible exact ih0 _ _ _ _)
      | (with_reducible exact ih1 _ _ _ _ _)
      | (with_reducible exact LeO.refl _)
      | (with_reducible exact LeO.none _)
      | (with_reducible refine LeO.ite ?_ ?_)
      | (with_reducible refine LeO.bind ?_ (fun _ => ?_))
      | exact ih0 _ _ _ _
      | exact ih1 _ _ _ _ _
      | exact LeO.none _
      | refine LeO.ite ?_ ?_
      | refine LeO.bind ?_ (fun _ => ?_)
set_option maxHeartbeats 8000000 in
set_option maxRecDepth 100000 in
theorem wire_Sum.calls (k : Nat) (A0 : Option Addr) (c0 : Nat) (l0 : List Int) (r : Int) (w : World) (hr0 : Kd.C (Kd.int .u8) w A0 l0.length l0) (hc0 : l0.length ≤ c0) (h : wire_Sum.f k l0 = some r) :
    Calls Try.prog 76 #[.slice A0 l0.length c0] w fun e w' => e = .returned (.int .u32 r) ∧ Drawn0 w w' := by
  have HR0 := Aside0.mk hr0
  have HC0 := Aside0.mk hc0
  clear hr0 hc0
  have H : (wire_Sum.l0 k 4294967295 l0 (l0.length : Int) 0) = some r := h
  clear h
  have H' := Aside0.mk H
  clear H
  go_enter Try.func76, Try.ntmps76
  go_wp2
  go_loopg [3, 9] k (fun kq v3 v9 w' => ∃ (x3_1 : Int) (x9_1 : Int), v3 = .int .u32 x3_1 ∧ v9 = .int .i64 x9_1 ∧ Aside0 (wire_Sum.l0 kq x3_1 l0 (l0.length : Int) x9_1 = some r) ∧ Aside0 (kq ≤ k) ∧ Drawn0 w w')
  case atStart => exact ⟨(4294967295), (0), (by first | rfl | (simp; done) | (simp [*]; done)), (by first | rfl | (simp; done) | (simp [*]; done)), H', ⟨Nat.le_refl _⟩, by repeat (first | exact Drawn0.refl _ | apply Drawn0.step)⟩
  case round =>
    clear H'
    obtain ⟨x3_1, x9_1, rfl, rfl, HA, HK1, ⟨m1, rfl⟩⟩ := hrel
    cases gk with
    | zero => exact absurd HA.out (by simp [wire_Sum.l0])
    | succ k1 =>
      have H := HA.out
      clear HA
      simp only [wire_Sum.l0] at H
      by_cases c2 : x9_1 < (l0.length : Int)
      · rw [if_pos c2] at H
        have c2b0 : decide (x9_1 < (l0.length : Int)) = true := decide_eq_true c2
        clear c2
        by_cases c3 : 0 ≤ x9_1
        · rw [if_pos c3] at H
          have c3b0 : decide (0 ≤ x9_1) = true := decide_eq_true c3
          clear c3
          by_cases c4 : x9_1 < (l0.length : Int)
          · rw [if_pos c4] at H
            have c4b0 : decide (x9_1 < (l0.length : Int)) = true := decide_eq_true c4
            clear c4
            have H' := Aside0.mk H
            clear H
            have p101 : 0 ≤ (x9_1 : Int) := of_decide_eq_true (by first | (with_reducible assumption) | assumption)
            have q101 : x9_1 < (l0.length : Int) := of_decide_eq_true (by first | (with_reducible assumption) | assumption)
            obtain ⟨ad101, e101, hx101_0⟩ := Kd.at_int HR0.out x9_1 p101 q101
            cases e101
            replace p101 := eq_true p101
            replace q101 := eq_true q101
            go_wp2
            go_loopg [3, 17] k1 (fun kq v3 v17 w' => ∃ (x3_2 : Int) (x17_2 : Int), v3 = .int .u32 x3_2 ∧ v17 = .int .i64 x17_2 ∧ Aside0 (wire_Sum.l1 kq x3_2 l0 (l0.length : Int) x9_1 x17_2 = some r) ∧ Aside0 (kq ≤ k1) ∧ Drawn0 w w')
            case atStart => exact ⟨(Go.bits .xor .u32 x3_1 ((rd l0 x9_1) % 4294967296)), (0), (by first | rfl | (simp; done) | (simp [*]; done)), (by first | rfl | (simp; done) | (simp [*]; done)), H', ⟨Nat.le_refl _⟩, by repeat (first | exact Drawn0.refl _ | apply Drawn0.step)⟩
            case round =>
              clear H'
              try clear p1
              try clear q1
              try clear hx1
              try clear c2
              try clear c2b0
              try clear p2
              try clear c3
              try clear c3b0
              try clear c4
              try clear c4b0
              try clear hx101_0
              try clear p101
              try clear q101
              obtain ⟨x3_2, x17_2, rfl, rfl, HA, HK2, ⟨m2, rfl⟩⟩ := hrel
              cases gk with
              | zero => exact absurd HA.out (by simp [wire_Sum.l1])
              | succ k2 =>
                have H := HA.out
                clear HA
                simp only [wire_Sum.l1] at H
                by_cases c5 : x17_2 < 8
                · rw [if_pos c5] at H
                  have c5b0 : decide (x17_2 < 8) = true := decide_eq_true c5
                  clear c5
                  have H' := Aside0.mk H
                  clear H
                  go_wp2
                  go_roundg k2
                  case measure => have := HK1.out; have := HK2.out; omega
                  case rel => exact ⟨(Go.bits .xor .u32 (x3_2 / 2) (Go.bits .and .u32 2197175160 ((-(Go.bits .and .u32 x3_2 1)) % 4294967296))), (wrap64 (x17_2 + 1)), (by first | rfl | (simp; done) | (simp [*]; done)), (by first | rfl | (simp; done) | (simp [*]; done)), H', ⟨by have := HK1.out; have := HK2.out; omega⟩, by repeat (first | exact Drawn0.refl _ | apply Drawn0.step)⟩
                · rw [if_neg c5] at H
                  have c5b0 : decide (x17_2 < 8) = false := decide_eq_false c5
                  clear c5
                  have H' := Aside0.mk H
                  clear H
                  go_wp2
                  go_roundg k2
                  case measure => have := HK1.out; have := HK2.out; omega
                  case rel => exact ⟨(x3_2), (wrap64 (x9_1 + 1)), (by first | rfl | (simp; done) | (simp [*]; done)), (by first | rfl | (simp; done) | (simp [*]; done)), H', ⟨by have := HK1.out; have := HK2.out; omega⟩, by repeat (first | exact Drawn0.refl _ | apply Drawn0.step)⟩
          · rw [if_neg c4] at H
            exact absurd H (by simp)
        · rw [if_neg c3] at H
          exact absurd H (by simp)
      · rw [if_neg c2] at H
        have c2b0 : decide (x9_1 < (l0.length : Int)) = false := decide_eq_false c2
        clear c2
        obtain rfl := Option.some.inj H
        go_wp2
        go_ret
        exact ⟨by first | rfl | (simp; done) | (simp [*]; done), by repeat (first | exact Drawn0.refl _ | apply Drawn0.step)⟩
def wire_four.f (a0 : Int) : Option (List Int) := some (([(a0 / 16777216) % 256, (a0 / 65536) % 256, (a0 / 256) % 256, (a0) % 256] : List Int))
set_option maxHeartbeats 8000000 in
set_option maxRecDepth 100000 in
theorem wire_four.calls (a0 : Int) (r : List Int) (w : World) (h : wire_four.f a0 = some r) :
    Calls Try.prog 75 #[.int .u32 a0] w fun e w' => ∃ v0_ : Value, e = .returned (v0_) ∧ Kd.R (Kd.int .u8) 5 w' w.heap.size (fun _ => True) v0_ r ∧ Below w.heap.size w w' := by
  have HB := Aside0.mk (Below.refl w.heap.size w)
  have H : (some (([(a0 / 16777216) % 256, (a0 / 65536) % 256, (a0 / 256) % 256, (a0) % 256] : List Int))) = some r := h
  clear h
  obtain ⟨y105, hy105⟩ : ∃ y_ : List Int, y_ = (([(a0 / 16777216) % 256, (a0 / 65536) % 256, (a0 / 256) % 256, (a0) % 256] : List Int)) := ⟨_, rfl⟩
  replace H : (some y105) = some r := by first | (rw [hy105]; with_reducible exact H) | (have H2_ := (Option.bind_some _ _).symm.trans H; rw [hy105]; with_reducible exact H2_) | (have H2_ := (Option.bind_some _ _).symm.trans H; with_reducible exact H2_) | with_reducible exact H | (rw [hy105]; exact H) | exact H
  have Ny105 := Aside0.mk hy105
  clear hy105
  obtain rfl := Option.some.inj H
  go_enter Try.func75, Try.ntmps75
  go_wp2_with (first | ((with_reducible refine gate_dst (N := 14) rfl ?_); refine Kd.R_lit (Kd.int .u8) _ 5 ?hg (N := 14) ?hd (xs := ([(a0 / 16777216) % 256, (a0 / 65536) % 256, (a0 / 256) % 256, (a0) % 256] : List Int)) (inner := [.int .u8 ((a0 / 16777216) % 256), .int .u8 ((a0 / 65536) % 256), .int .u8 ((a0 / 256) % 256), .int .u8 ((a0) % 256)]) (ok := fun _ => True) (okp := fun _ => True) ?hr ?hp (fun _ hk => hk) trivial (Below.refl _ _) (Nat.le_refl _) (by simp) ?_; (case hd => rfl); (case hg => rfl); (case hr => first | (go_simp; done) | (go_simp; rfl)); (case hp => exact (Reps.one (show Kd.M (Kd.int .u8) _ _ _ ((a0 / 16777216) % 256) [.int .u8 ((a0 / 16777216) % 256)] from rfl) (Reps.one (show Kd.M (Kd.int .u8) _ _ _ ((a0 / 65536) % 256) [.int .u8 ((a0 / 65536) % 256)] from rfl) (Reps.one (show Kd.M (Kd.int .u8) _ _ _ ((a0 / 256) % 256) [.int .u8 ((a0 / 256) % 256)] from rfl) (Reps.one (show Kd.M (Kd.int .u8) _ _ _ ((a0) % 256) [.int .u8 ((a0) % 256)] from rfl) (Reps.none _ _)))))); intro v106 w2 ho3 hb hg_ hnew_; clear hg_ hnew_; (first | rw [← Ny105.out] at ho3 | (simp only [Int.reduceToNat] at ho3; rw [← Ny105.out] at ho3)); have n0_ := Aside0.mk (Kd.R_lower ho3 (below_size (by repeat (first | (with_reducible first | exact HB.out | apply below_alloc | apply pw_below_drewN | apply below_drew1) | exact HB.out)))); have n1_ := Aside0.mk (below_step (by repeat (first | (with_reducible first | exact HB.out | apply below_alloc | apply pw_below_drewN | apply below_drew1) | exact HB.out)) hb); clear HB; have HO107 := n0_; have HB := n1_; clear n0_ n1_; clear hb ho3))
  go_ret
  exact ⟨_, by first | rfl | (simp [errW_none, errW_some] <;> rfl) | (simp [*, errW_none, errW_some] <;> rfl), by (with_reducible repeat (first | apply Kd.R_alloc | apply Kd.R_drewN | apply Kd.R_drew)); exact HO107.out, by repeat (first | (with_reducible first | exact HB.out | apply below_alloc | apply pw_below_drewN | apply below_drew1) | exact HB.out)⟩
def IsS146 (w0 W : World) (g : Nat) (f0 : List Int) (f1 : Int) (f2 : Int) (f3 : Bool) : Prop := ∃ A0 c0, W.heap[g]? = some (.cells #[.slice A0 f0.length c0, .int .i64 f1, .int .i64 f2, .bool f3] 146 (0, 0)) ∧ w0.heap.size ≤ g ∧ (Kd.C (Kd.int .u8) w0 A0 f0.length f0 ∧ f0.length ≤ c0)
theorem IsS146.grown {w0 W : World} {g : Nat} {f0 : List Int} {f1 : Int} {f2 : Int} {f3 : Bool} {W1 : World} {row : Option Nat} (h : IsS146 w0 W g f0 f1 f2 f3) (hw : W.grownBy W1 row) (hne : some g ≠ row) : IsS146 w0 W1 g f0 f1 f2 f3 := by
  obtain ⟨A0, c0, hb, hg, hr0⟩ := h
  exact ⟨A0, c0, blk_grown hb hw hne, hg, hr0⟩
theorem IsS146.fresh {w0 W : World} {g : Nat} {f0 : List Int} {f1 : Int} {f2 : Int} {f3 : Bool} (h : IsS146 w0 W g f0 f1 f2 f3) : ∀ k, W.heap.size ≤ k → k ≠ g := by
  obtain ⟨A0, c0, hb, hg, hr0⟩ := h
  exact Kd.freshB hb
theorem IsS146.kept {w0 W : World} {g : Nat} {f0 : List Int} {f1 : Int} {f2 : Int} {f3 : Bool} {W1 : World} {S : Nat → Prop} (h : IsS146 w0 W g f0 f1 f2 f3) (hk : Kept W W1 S) (hne : ¬ S g) : IsS146 w0 W1 g f0 f1 f2 f3 := by
  obtain ⟨A0, c0, hb, hg, hr0⟩ := h
  exact ⟨A0, c0, blk_kept hb hk hne, hg, hr0⟩
theorem IsS146.below {w0 W : World} {g : Nat} {f0 : List Int} {f1 : Int} {f2 : Int} {f3 : Bool} {W1 : World} (h : IsS146 w0 W g f0 f1 f2 f3) (hw : Below W.heap.size W W1) : IsS146 w0 W1 g f0 f1 f2 f3 := h.grown (grown_of_below hw none) (by simp)
theorem IsS146.alloc {w0 W : World} {g : Nat} {f0 : List Int} {f1 : Int} {f2 : Int} {f3 : Bool} (h : IsS146 w0 W g f0 f1 f2 f3) (o : Obj) : IsS146 w0 (W.alloc o) g f0 f1 f2 f3 := h.below (below_alloc (Below.refl _ _) o)
theorem IsS146.drewN {w0 W : World} {g : Nat} {f0 : List Int} {f1 : Int} {f2 : Int} {f3 : Bool} (h : IsS146 w0 W g f0 f1 f2 f3) (m : Nat) : IsS146 w0 (W.drewN m) g f0 f1 f2 f3 := h
theorem IsS146.drew {w0 W : World} {g : Nat} {f0 : List Int} {f1 : Int} {f2 : Int} {f3 : Bool} (h : IsS146 w0 W g f0 f1 f2 f3) : IsS146 w0 W.drew g f0 f1 f2 f3 := h
theorem IsS146.at_ {w0 W : World} {g : Nat} {f0 : List Int} {f1 : Int} {f2 : Int} {f3 : Bool} {w' : World} {m : Nat} (hq : W.drewN m = w') (h : IsS146 w0 W g f0 f1 f2 f3) : IsS146 w0 w' g f0 f1 f2 f3 := by subst hq; exact IsS146.drewN h m
theorem IsS146.apart {w0 W : World} {g : Nat} {f0 : List Int} {f1 : Int} {f2 : Int} {f3 : Bool} {α : Type} {d : Kd α} {e : Nat} {base : Nat} {ok : Nat → Prop} {v : Value} {xs : List α} (h : IsS146 w0 W g f0 f1 f2 f3) (ho : d.R e W base ok v xs) (ht : ∀ q, q ∈ e :: d.E → q ≠ 146) : d.R e W base (fun k => ok k ∧ k ≠ g) v xs := by
  obtain ⟨A0, c0, hb, hg, hr0⟩ := h
  exact Kd.R_types ho hb ht
theorem IsS146.own_ne {w0 W : World} {g : Nat} {f0 : List Int} {f1 : Int} {f2 : Int} {f3 : Bool} {α : Type} {d : Kd α} {e : Nat} {base : Nat} {ok : Nat → Prop} {v : Value} {xs : List α} (h : IsS146 w0 W g f0 f1 f2 f3) (ho : d.R e W base ok v xs) (ht : e ≠ 146) : some g ≠ v.ownBlock := by
  obtain ⟨A0, c0, hb, hg, hr0⟩ := h
  exact Kd.R_ne ho hb ht
theorem IsS146.lt {w0 W : World} {g : Nat} {f0 : List Int} {f1 : Int} {f2 : Int} {f3 : Bool} (h : IsS146 w0 W g f0 f1 f2 f3) : g < W.heap.size := by
  obtain ⟨A0, c0, hb, hg, hr0⟩ := h
  exact blk_lt hb
theorem IsS146.ge {w0 W : World} {g : Nat} {f0 : List Int} {f1 : Int} {f2 : Int} {f3 : Bool} (h : IsS146 w0 W g f0 f1 f2 f3) : w0.heap.size ≤ g := by
  obtain ⟨A0, c0, hb, hg, hr0⟩ := h
  exact hg
theorem IsS146.far {w0 W : World} {g : Nat} {f0 : List Int} {f1 : Int} {f2 : Int} {f3 : Bool} {p : Addr} (h : IsS146 w0 W g f0 f1 f2 f3) (hne : g ≠ p.block) (u : Value) : IsS146 w0 (W.setCell p u) g f0 f1 f2 f3 := by
  obtain ⟨A0, c0, hb, hg, hr0⟩ := h
  exact ⟨A0, c0, blk_far hb hne u, hg, hr0⟩
theorem cellS62_0 {W : World} {g : Nat} {A0 : Option Addr} {c0 : Nat} {f0 : List Int} {f1 : Int} {f2 : Int} {f3 : Bool} (h : W.heap[g]? = some (.cells #[.slice A0 f0.length c0, .int .i64 f1, .int .i64 f2, .bool f3] 146 (0, 0))) : W.cell? ⟨g, 0, none⟩ = some (.slice A0 f0.length c0) := (blk_cell h 0).trans rfl
theorem cellS62_1 {W : World} {g : Nat} {A0 : Option Addr} {c0 : Nat} {f0 : List Int} {f1 : Int} {f2 : Int} {f3 : Bool} (h : W.heap[g]? = some (.cells #[.slice A0 f0.length c0, .int .i64 f1, .int .i64 f2, .bool f3] 146 (0, 0))) : W.cell? ⟨g, 1, none⟩ = some (.int .i64 f1) := (blk_cell h 1).trans rfl
theorem IsS146.set_1 {w0 W : World} {g : Nat} {f0 : List Int} {f1 : Int} {f2 : Int} {f3 : Bool} (h : IsS146 w0 W g f0 f1 f2 f3) (x : Int) : IsS146 w0 (W.setCell ⟨g, 1, none⟩ (.int .i64 x)) g f0 x f2 f3 := by
  obtain ⟨A0, c0, hb, hg, hr0⟩ := h
  exact ⟨A0, c0, by simpa using blk_set hb 1 (.int .i64 x), hg, hr0⟩
theorem cellS62_2 {W : World} {g : Nat} {A0 : Option Addr} {c0 : Nat} {f0 : List Int} {f1 : Int} {f2 : Int} {f3 : Bool} (h : W.heap[g]? = some (.cells #[.slice A0 f0.length c0, .int .i64 f1, .int .i64 f2, .bool f3] 146 (0, 0))) : W.cell? ⟨g, 2, none⟩ = some (.int .i64 f2) := (blk_cell h 2).trans rfl
theorem IsS146.set_2 {w0 W : World} {g : Nat} {f0 : List Int} {f1 : Int} {f2 : Int} {f3 : Bool} (h : IsS146 w0 W g f0 f1 f2 f3) (x : Int) : IsS146 w0 (W.setCell ⟨g, 2, none⟩ (.int .i64 x)) g f0 f1 x f3 := by
  obtain ⟨A0, c0, hb, hg, hr0⟩ := h
  exact ⟨A0, c0, by simpa using blk_set hb 2 (.int .i64 x), hg, hr0⟩
theorem cellS62_3 {W : World} {g : Nat} {A0 : Option Addr} {c0 : Nat} {f0 : List Int} {f1 : Int} {f2 : Int} {f3 : Bool} (h : W.heap[g]? = some (.cells #[.slice A0 f0.length c0, .int .i64 f1, .int .i64 f2, .bool f3] 146 (0, 0))) : W.cell? ⟨g, 3, none⟩ = some (.bool f3) := (blk_cell h 3).trans rfl
theorem IsS146.set_3 {w0 W : World} {g : Nat} {f0 : List Int} {f1 : Int} {f2 : Int} {f3 : Bool} (h : IsS146 w0 W g f0 f1 f2 f3) (x : Bool) : IsS146 w0 (W.setCell ⟨g, 3, none⟩ (.bool x)) g f0 f1 f2 x := by
  obtain ⟨A0, c0, hb, hg, hr0⟩ := h
  exact ⟨A0, c0, by simpa using blk_set hb 3 (.bool x), hg, hr0⟩
theorem IsS146.new (w0 W : World) (A0 : Option Addr) (c0 : Nat) (f0 : List Int) (f1 : Int) (f2 : Int) (f3 : Bool) (hB : Below w0.heap.size w0 W) (hr0 : Kd.C (Kd.int .u8) w0 A0 f0.length f0 ∧ f0.length ≤ c0) : IsS146 w0 (W.alloc (.cells #[.slice A0 f0.length c0, .int .i64 f1, .int .i64 f2, .bool f3] 146)) W.heap.size f0 f1 f2 f3 := ⟨A0, c0, by simpa using heap_alloc_new W _, hB.size, hr0⟩
def wire_Reader_Err.f (s0_0 : List Int) (s0_1 : Int) (s0_2 : Int) (s0_3 : Bool) : Option (Int × Int × Int × Bool) := if s0_3 = true then (some (s0_2, s0_1, s0_2, s0_3)) else (some (6, s0_1, s0_2, s0_3))
set_option maxHeartbeats 8000000 in
set_option maxRecDepth 100000 in
theorem wire_Reader_Err.calls (g : Nat) (s0_0 : List Int) (s0_1 : Int) (s0_2 : Int) (s0_3 : Bool) (r1 : Int) (r2 : Int) (r3 : Int) (r4 : Bool) (w0 w : World) (hI : IsS146 w0 w g s0_0 s0_1 s0_2 s0_3) (hB : Below w0.heap.size w0 w) (h : wire_Reader_Err.f s0_0 s0_1 s0_2 s0_3 = some (r1, r2, r3, r4)) :
    Calls Try.prog 95 #[.pointer (some ⟨g, 0, none⟩)] w fun e w' => e = .returned (.int .i64 r1) ∧ IsS146 w0 w' g s0_0 r2 r3 r4 ∧ Below w0.heap.size w0 w' ∧ KeepBut w w' g none := by
  have HI0 := Aside0.mk hI
  have HK := Aside0.mk (KeepBut.refl w g none)
  have HL := Aside0.mk hB.size
  clear hI
  have HW0 := Aside0.mk hB.size
  have HB := Aside0.mk hB
  clear hB
  have H : (if s0_3 = true then (some (s0_2, s0_1, s0_2, s0_3)) else (some (6, s0_1, s0_2, s0_3))) = some (r1, r2, r3, r4) := h
  clear h
  by_cases c2 : s0_3 = true
  · subst c2
    have H1 : (some (s0_2, s0_1, s0_2, true)) = some (r1, r2, r3, r4) := by rw [if_pos rfl] at H; exact H
    clear H
    have H := H1
    clear H1
    simp only [Option.some.injEq, Prod.mk.injEq] at H
    obtain ⟨rfl, rfl, rfl, rfl⟩ := H
    obtain ⟨ASz3_0, cSz3_0, HGz3, hgz3, HSz3_0⟩ := HI0.out
    have hcz3_0 := cellS62_0 HGz3
    have hcz3_1 := cellS62_1 HGz3
    have hcz3_2 := cellS62_2 HGz3
    have hcz3_3 := cellS62_3 HGz3
    have hfz3_1 := blk_frozen HGz3 1
    have hfz3_2 := blk_frozen HGz3 2
    have hfz3_3 := blk_frozen HGz3 3
    clear HGz3 hgz3
    go_enter Try.func95, Try.ntmps95
    go_wp2
    go_ret
    exact ⟨by first | rfl | (simp [errW_none, errW_some] <;> rfl) | (simp [*, errW_none, errW_some] <;> rfl), by repeat (first | (with_reducible first | exact HI0.out | apply IsS146.alloc | apply IsS146.drewN | apply IsS146.drew | apply IsS146.set_1 | apply IsS146.set_2 | apply IsS146.set_3) | exact HI0.out), by repeat (first | (with_reducible first | exact HB.out | apply below_alloc | apply pw_below_drewN | apply below_drew1 | refine below_set ?_ (IsS146.ge HI0.out)) | exact HB.out), by repeat (first | (with_reducible first | exact HK.out | apply KeepBut.set_ | apply keep_drewN | apply keep_drew | apply keep_alloc) | exact HK.out)⟩
  · replace c2 := Bool.eq_false_iff.mpr c2
    subst c2
    have H1 : (some (6, s0_1, s0_2, false)) = some (r1, r2, r3, r4) := by rw [if_neg (show ¬ (false = true) by decide)] at H; exact H
    clear H
    have H := H1
    clear H1
    simp only [Option.some.injEq, Prod.mk.injEq] at H
    obtain ⟨rfl, rfl, rfl, rfl⟩ := H
    obtain ⟨ASz4_0, cSz4_0, HGz4, hgz4, HSz4_0⟩ := HI0.out
    have hcz4_0 := cellS62_0 HGz4
    have hcz4_1 := cellS62_1 HGz4
    have hcz4_2 := cellS62_2 HGz4
    have hcz4_3 := cellS62_3 HGz4
    have hfz4_1 := blk_frozen HGz4 1
    have hfz4_2 := blk_frozen HGz4 2
    have hfz4_3 := blk_frozen HGz4 3
    clear HGz4 hgz4
    go_enter Try.func95, Try.ntmps95
    go_wp2
    go_ret
    exact ⟨by first | rfl | (simp [errW_none, errW_some] <;> rfl) | (simp [*, errW_none, errW_some] <;> rfl), by repeat (first | (with_reducible first | exact HI0.out | apply IsS146.alloc | apply IsS146.drewN | apply IsS146.drew | apply IsS146.set_1 | apply IsS146.set_2 | apply IsS146.set_3) | exact HI0.out), by repeat (first | (with_reducible first | exact HB.out | apply below_alloc | apply pw_below_drewN | apply below_drew1 | refine below_set ?_ (IsS146.ge HI0.out)) | exact HB.out), by repeat (first | (with_reducible first | exact HK.out | apply KeepBut.set_ | apply keep_drewN | apply keep_drew | apply keep_alloc) | exact HK.out)⟩
def wire_Reader_stop.f (s0_0 : List Int) (s0_1 : Int) (s0_2 : Int) (s0_3 : Bool) (a1 : Int) (a2 : Int) : Option (Int × Int × Bool) := if s0_2 = 0 then (some (a1, a2, s0_3)) else (some (s0_1, s0_2, s0_3))
set_option maxHeartbeats 8000000 in
set_option maxRecDepth 100000 in
theorem wire_Reader_stop.calls (g : Nat) (s0_0 : List Int) (s0_1 : Int) (s0_2 : Int) (s0_3 : Bool) (a1 : Int) (a2 : Int) (r1 : Int) (r2 : Int) (r3 : Bool) (w0 w : World) (hI : IsS146 w0 w g s0_0 s0_1 s0_2 s0_3) (hB : Below w0.heap.size w0 w) (h : wire_Reader_stop.f s0_0 s0_1 s0_2 s0_3 a1 a2 = some (r1, r2, r3)) :
    Calls Try.prog 96 #[.pointer (some ⟨g, 0, none⟩), .int .i64 a1, .int .i64 a2] w fun e w' => e = .returned (.tuple #[]) ∧ IsS146 w0 w' g s0_0 r1 r2 r3 ∧ Below w0.heap.size w0 w' ∧ KeepBut w w' g none := by
  have HI0 := Aside0.mk hI
  have HK := Aside0.mk (KeepBut.refl w g none)
  have HL := Aside0.mk hB.size
  clear hI
  have HW0 := Aside0.mk hB.size
  have HB := Aside0.mk hB
  clear hB
  have H : (if s0_2 = 0 then (some (a1, a2, s0_3)) else (some (s0_1, s0_2, s0_3))) = some (r1, r2, r3) := h
  clear h
  by_cases c4 : s0_2 = 0
  · rw [if_pos c4] at H
    have c4b0 : (s0_2 == 0) = true := beq_iff_eq.mpr c4
    have c4b1 : (s0_2 != 0) = false := bne_eq_false_iff_eq.mpr c4
    clear c4
    simp only [Option.some.injEq, Prod.mk.injEq] at H
    obtain ⟨rfl, rfl, rfl⟩ := H
    obtain ⟨ASz5_0, cSz5_0, HGz5, hgz5, HSz5_0⟩ := HI0.out
    have hcz5_0 := cellS62_0 HGz5
    have hcz5_1 := cellS62_1 HGz5
    have hcz5_2 := cellS62_2 HGz5
    have hcz5_3 := cellS62_3 HGz5
    have hfz5_1 := blk_frozen HGz5 1
    have hfz5_2 := blk_frozen HGz5 2
    have hfz5_3 := blk_frozen HGz5 3
    clear HGz5 hgz5
    go_enter Try.func96, Try.ntmps96
    go_wp2
    first | go_end0 | ((try simp only [Exit.inBlock, Exit.then]); refine bodyPost_ret (results_none rfl _ _ _) rfl ?_)
    exact ⟨by first | rfl | (simp [errW_none, errW_some] <;> rfl) | (simp [*, errW_none, errW_some] <;> rfl), by repeat (first | (with_reducible first | exact HI0.out | apply IsS146.alloc | apply IsS146.drewN | apply IsS146.drew | apply IsS146.set_1 | apply IsS146.set_2 | apply IsS146.set_3) | exact HI0.out), by repeat (first | (with_reducible first | exact HB.out | apply below_alloc | apply pw_below_drewN | apply below_drew1 | refine below_set ?_ (IsS146.ge HI0.out)) | exact HB.out), by repeat (first | (with_reducible first | exact HK.out | apply KeepBut.set_ | apply keep_drewN | apply keep_drew | apply keep_alloc) | exact HK.out)⟩
  · rw [if_neg c4] at H
    have c4b0 : (s0_2 == 0) = false := beq_eq_false_iff_ne.mpr c4
    have c4b1 : (s0_2 != 0) = true := bne_iff_ne.mpr c4
    simp only [Option.some.injEq, Prod.mk.injEq] at H
    obtain ⟨rfl, rfl, rfl⟩ := H
    obtain ⟨ASz6_0, cSz6_0, HGz6, hgz6, HSz6_0⟩ := HI0.out
    have hcz6_0 := cellS62_0 HGz6
    have hcz6_1 := cellS62_1 HGz6
    have hcz6_2 := cellS62_2 HGz6
    have hcz6_3 := cellS62_3 HGz6
    have hfz6_1 := blk_frozen HGz6 1
    have hfz6_2 := blk_frozen HGz6 2
    have hfz6_3 := blk_frozen HGz6 3
    clear HGz6 hgz6
    go_enter Try.func96, Try.ntmps96
    go_wp2
    first | go_end0 | ((try simp only [Exit.inBlock, Exit.then]); refine bodyPost_ret (results_none rfl _ _ _) rfl ?_)
    exact ⟨by first | rfl | (simp [errW_none, errW_some] <;> rfl) | (simp [*, errW_none, errW_some] <;> rfl), by repeat (first | (with_reducible first | exact HI0.out | apply IsS146.alloc | apply IsS146.drewN | apply IsS146.drew | apply IsS146.set_1 | apply IsS146.set_2 | apply IsS146.set_3) | exact HI0.out), by repeat (first | (with_reducible first | exact HB.out | apply below_alloc | apply pw_below_drewN | apply below_drew1 | refine below_set ?_ (IsS146.ge HI0.out)) | exact HB.out), by repeat (first | (with_reducible first | exact HK.out | apply KeepBut.set_ | apply keep_drewN | apply keep_drew | apply keep_alloc) | exact HK.out)⟩
mutual
def wire_Reader_Number.l0 : Nat → Int → Int → Int → List Int → Int → Int → Bool → Option (Int × Int × Int × Bool)
  | 0, _, _, _, _, _, _, _ => none
  | k + 1, x3, x4, x5, x1000, x1001, x1002, x1003 => if x1001 = (x1000.length : Int) then ((wire_Reader_stop.f x1000 x1001 x1002 x1003 x4 2).bind fun bt119 => (some (0, bt119.1, bt119.2.1, bt119.2.2))) else (if 0 ≤ x1001 then (if x1001 < (x1000.length : Int) then (if x5 = 63 then (if (IntKind.u64.wrap (Go.bits .and .u8 (rd x1000 x1001) 127)) > 1 then (wire_Reader_Number.j1 k x3 x4 x5 (rd x1000 x1001) (IntKind.u64.wrap (Go.bits .and .u8 (rd x1000 x1001) 127)) true x1000 (wrap64 (x1001 + 1)) x1002 x1003) else (wire_Reader_Number.j1 k x3 x4 x5 (rd x1000 x1001) (IntKind.u64.wrap (Go.bits .and .u8 (rd x1000 x1001) 127)) (decide (x5 > 63)) x1000 (wrap64 (x1001 + 1)) x1002 x1003)) else (wire_Reader_Number.j1 k x3 x4 x5 (rd x1000 x1001) (IntKind.u64.wrap (Go.bits .and .u8 (rd x1000 x1001) 127)) (decide (x5 > 63)) x1000 (wrap64 (x1001 + 1)) x1002 x1003)) else (none)) else (none))
def wire_Reader_Number.j1 : Nat → Int → Int → Int → Int → Int → Bool → List Int → Int → Int → Bool → Option (Int × Int × Int × Bool)
  | 0, _, _, _, _, _, _, _, _, _, _ => none
  | k + 1, x3, x4, x5, x6, x7, x50, x1000, x1001, x1002, x1003 => if x50 = true then ((wire_Reader_stop.f x1000 x1001 x1002 x1003 x4 5).bind fun bt123 => (some (0, bt123.1, bt123.2.1, bt123.2.2))) else (if x6 = 0 then (wire_Reader_Number.j2 k x3 x4 x5 x6 x7 (decide (x5 > 0)) x1000 x1001 x1002 x1003) else (wire_Reader_Number.j2 k x3 x4 x5 x6 x7 false x1000 x1001 x1002 x1003))
def wire_Reader_Number.j2 : Nat → Int → Int → Int → Int → Int → Bool → List Int → Int → Int → Bool → Option (Int × Int × Int × Bool)
  | 0, _, _, _, _, _, _, _, _, _, _ => none
  | k + 1, x3, x4, x5, x6, x7, x64, x1000, x1001, x1002, x1003 => if x64 = true then ((wire_Reader_stop.f x1000 x1001 x1002 x1003 x4 10).bind fun bt126 => (some (0, bt126.1, bt126.2.1, bt126.2.2))) else (if 0 ≤ x5 then (if x6 < 128 then (some (Go.bits .or .u64 x3 (shl .u64 x7 x5), x1001, x1002, x1003)) else (wire_Reader_Number.l0 k (Go.bits .or .u64 x3 (shl .u64 x7 x5)) x4 (wrap64 (x5 + 7)) x1000 x1001 x1002 x1003)) else (none))
end
def wire_Reader_Number.f (k : Nat) (s0_0 : List Int) (s0_1 : Int) (s0_2 : Int) (s0_3 : Bool) : Option (Int × Int × Int × Bool) := (wire_Reader_Err.f s0_0 s0_1 s0_2 s0_3).bind fun bt115 => (if bt115.1 = 0 then (wire_Reader_Number.l0 k 0 bt115.2.1 0 s0_0 bt115.2.1 bt115.2.2.1 bt115.2.2.2) else (some (0, bt115.2.1, bt115.2.2.1, bt115.2.2.2)))
theorem wire_Reader_Number.mono_l : ∀ k, (∀ y0 y1 y2 y3 y4 y5 y6, LeO (wire_Reader_Number.l0 k y0 y1 y2 y3 y4 y5 y6) (wire_Reader_Number.l0 (k + 1) y0 y1 y2 y3 y4 y5 y6)) ∧ (∀ y0 y1 y2 y3 y4 y5 y6 y7 y8 y9, LeO (wire_Reader_Number.j1 k y0 y1 y2 y3 y4 y5 y6 y7 y8 y9) (wire_Reader_Number.j1 (k + 1) y0 y1 y2 y3 y4 y5 y6 y7 y8 y9)) ∧ (∀ y0 y1 y2 y3 y4 y5 y6 y7 y8 y9, LeO (wire_Reader_Number.j2 k y0 y1 y2 y3 y4 y5 y6 y7 y8 y9) (wire_Reader_Number.j2 (k + 1) y0 y1 y2 y3 y4 y5 y6 y7 y8 y9))
  | 0 => ⟨fun _ _ _ _ _ _ _ r h => by simp [wire_Reader_Number.l0] at h, fun _ _ _ _ _ _ _ _ _ _ r h => by simp [wire_Reader_Number.j1] at h, fun _ _ _ _ _ _ _ _ _ _ r h => by simp [wire_Reader_Number.j2] at h⟩
  | k + 1 => by
    obtain ⟨ih0, ih1, ih2⟩ := wire_Reader_Number.mono_l k
    refine ⟨?_, ?_, ?_⟩
    · intro y0 y1 y2 y3 y4 y5 y6
      unfold wire_Reader_Number.l0
      repeat' first
      | (with_reducible exact ih0 _ _ _ _ _ _ _)
      | (with_reducible exact ih1 _ _ _ _ _ _ _ _ _ _)
      | (with_reducible exact ih2 _ _ _ _ _ _ _ _ _ _)
      | (with_reducible exact LeO.refl _)
      | (with_reducible exact LeO.none _)
      | (with_reducible refine LeO.ite ?_ ?_)
      | (with_reducible refine LeO.bind ?_ (fun _ => ?_))
      | exact ih0 _ _ _ _ _ _ _
      | exact ih1 _ _ _ _ _ _ _ _ _ _
      | exact ih2 _ _ _ _ _ _ _ _ _ _
      | exact LeO.none _
      | refine LeO.ite ?_ ?_
      | refine LeO.bind ?_ (fun _ => ?_)
    · intro y0 y1 y2 y3 y4 y5 y6 y7 y8 y9
      unfold wire_Reader_Number.j1
      repeat' first
      | (with_reducible exact ih0 _ _ _ _ _ _ _)
      | (with_reducible exact ih1 _ _ _ _ _ _ _ _ _ _)
      | (with_reducible exact ih2 _ _ _ _ _ _ _ _ _ _)
      | (with_reducible exact LeO.refl _)
      | (with_reducible exact LeO.none _)
      | (with_reducible refine LeO.ite ?_ ?_)
      | (with_reducible refine LeO.bind ?_ (fun _ => ?_))
      | exact ih0 _ _ _ _ _ _ _
      | exact ih1 _ _ _ _ _ _ _ _ _ _
      | exact ih2 _ _ _ _ _ _ _ _ _ _
      | exact LeO.none _
      | refine LeO.ite ?_ ?_
      | refine LeO.bind ?_ (fun _ => ?_)
    · intro y0 y1 y2 y3 y4 y5 y6 y7 y8 y9
      unfold wire_Reader_Number.j2
      repeat' first
      | (with_reducible exact ih0 _ _ _ _ _ _ _)
      | (with_reducible exact ih1 _ _ _ _ _ _ _ _ _ _)
      | (with_reducible exact ih2 _ _ _ _ _ _ _ _ _ _)
      | (with_reducible exact LeO.refl _)
      | (with_reducible exact LeO.none _)
      | (with_reducible refine LeO.ite ?_ ?_)
      | (with_reducible refine LeO.bind ?_ (fun _ => ?_))
      | exact ih0 _ _ _ _ _ _ _
      | exact ih1 _ _ _ _ _ _ _ _ _ _
      | exact ih2 _ _ _ _ _ _ _ _ _ _
      | exact LeO.none _
      | refine LeO.ite ?_ ?_
      | refine LeO.bind ?_ (fun _ => ?_)
theorem wire_Reader_Number.mono : ∀ a0 a1 a2 a3 k, LeO (wire_Reader_Number.f k a0 a1 a2 a3) (wire_Reader_Number.f (k + 1) a0 a1 a2 a3) := by
  intro a0 a1 a2 a3 k
  obtain ⟨ih0, ih1, ih2⟩ := wire_Reader_Number.mono_l k
  unfold wire_Reader_Number.f
  repeat' first
      | (with_reducible exact ih0 _ _ _ _ _ _ _)
      | (with_reducible exact ih1 _ _ _ _ _ _ _ _ _ _)
      | (with_reducible exact ih2 _ _ _ _ _ _ _ _ _ _)
      | (with_reducible exact LeO.refl _)
      | (with_reducible exact LeO.none _)
      | (with_reducible refine LeO.ite ?_ ?_)
      | (with_reducible refine LeO.bind ?_ (fun _ => ?_))
      | exact ih0 _ _ _ _ _ _ _
      | exact ih1 _ _ _ _ _ _ _ _ _ _
      | exact ih2 _ _ _ _ _ _ _ _ _ _
      | exact LeO.none _
      | refine LeO.ite ?_ ?_
      | refine LeO.bind ?_ (fun _ => ?_)
set_option maxHeartbeats 8000000 in
set_option maxRecDepth 100000 in
theorem wire_Reader_Number.calls (k : Nat) (g : Nat) (s0_0 : List Int) (s0_1 : Int) (s0_2 : Int) (s0_3 : Bool) (r1 : Int) (r2 : Int) (r3 : Int) (r4 : Bool) (w0 w : World) (hI : IsS146 w0 w g s0_0 s0_1 s0_2 s0_3) (hB : Below w0.heap.size w0 w) (h : wire_Reader_Number.f k s0_0 s0_1 s0_2 s0_3 = some (r1, r2, r3, r4)) :
    Calls Try.prog 94 #[.pointer (some ⟨g, 0, none⟩)] w fun e w' => e = .returned (.int .u64 r1) ∧ IsS146 w0 w' g s0_0 r2 r3 r4 ∧ Below w0.heap.size w0 w' ∧ KeepBut w w' g none := by
  have HI0 := Aside0.mk hI
  have HK := Aside0.mk (KeepBut.refl w g none)
  have HL := Aside0.mk hB.size
  clear hI
  have HW0 := Aside0.mk hB.size
  have HB := Aside0.mk hB
  clear hB
  have H : ((wire_Reader_Err.f s0_0 s0_1 s0_2 s0_3).bind fun bt115 => (if bt115.1 = 0 then (wire_Reader_Number.l0 k 0 bt115.2.1 0 s0_0 bt115.2.1 bt115.2.2.1 bt115.2.2.2) else (some (0, bt115.2.1, bt115.2.2.1, bt115.2.2.2)))) = some (r1, r2, r3, r4) := h
  clear h
  replace H := Option.bind_eq_some_iff.mp H
  obtain ⟨⟨t115, t116, t117, t118⟩, A20, H⟩ := H
  replace H : (if t115 = 0 then (wire_Reader_Number.l0 k 0 t116 0 s0_0 t116 t117 t118) else (some (0, t116, t117, t118))) = some (r1, r2, r3, r4) := H
  have A2 := Aside0.mk A20
  clear A20
  by_cases c3 : t115 = 0
  · rw [if_pos c3] at H
    have c3b0 : (t115 == 0) = true := beq_iff_eq.mpr c3
    have c3b1 : (t115 != 0) = false := bne_eq_false_iff_eq.mpr c3
    clear c3
    have H' := Aside0.mk H
    clear H
    go_enter Try.func94, Try.ntmps94
    go_wp2_with (first | (go_at_call 95; (with_reducible refine (wire_Reader_Err.calls g s0_0 s0_1 s0_2 s0_3 t115 t116 t117 t118 w0 _ ?side1 ?side2 A2.out).mono ?_); (case side1 => repeat (first | (with_reducible first | exact HI0.out | apply IsS146.alloc | apply IsS146.drewN | apply IsS146.drew | apply IsS146.set_1 | apply IsS146.set_2 | apply IsS146.set_3) | exact HI0.out)); (case side2 => repeat (first | (with_reducible first | exact HB.out | apply below_alloc | apply pw_below_drewN | apply below_drew1 | refine below_set ?_ (IsS146.ge HI0.out)) | exact HB.out)); rintro e w4 ⟨rfl, hi, hb, hk⟩; have n0_ := Aside0.mk (KeepBut.trans (by repeat (first | (with_reducible first | exact HK.out | apply KeepBut.set_ | apply keep_drewN | apply keep_drew | apply keep_alloc) | exact HK.out)) hk (.inl rfl)); have n1_ := Aside0.mk (hb); have n2_ := Aside0.mk (hi); clear HK; clear HB; clear HI0; have HK := n0_; have HB := n1_; have HI0 := n2_; clear n0_ n1_ n2_; (try clear hb); (try clear hb2); (try clear hk); (try clear hi); obtain ⟨ASz5_0, cSz5_0, HGz5, hgz5, HSz5_0⟩ := HI0.out; have hcz5_0 := cellS62_0 HGz5; have hcz5_1 := cellS62_1 HGz5; have hcz5_2 := cellS62_2 HGz5; have hcz5_3 := cellS62_3 HGz5; have hfz5_1 := blk_frozen HGz5 1; have hfz5_2 := blk_frozen HGz5 2; have hfz5_3 := blk_frozen HGz5 3; clear HGz5 hgz5))
    repeat (go_quiet (first | (go_at_call 95; (with_reducible refine (wire_Reader_Err.calls g s0_0 s0_1 s0_2 s0_3 t115 t116 t117 t118 w0 _ ?side1 ?side2 A2.out).mono ?_); (case side1 => repeat (first | (with_reducible first | exact HI0.out | apply IsS146.alloc | apply IsS146.drewN | apply IsS146.drew | apply IsS146.set_1 | apply IsS146.set_2 | apply IsS146.set_3) | exact HI0.out)); (case side2 => repeat (first | (with_reducible first | exact HB.out | apply below_alloc | apply pw_below_drewN | apply below_drew1 | refine below_set ?_ (IsS146.ge HI0.out)) | exact HB.out)); rintro e w4 ⟨rfl, hi, hb, hk⟩; have n0_ := Aside0.mk (KeepBut.trans (by repeat (first | (with_reducible first | exact HK.out | apply KeepBut.set_ | apply keep_drewN | apply keep_drew | apply keep_alloc) | exact HK.out)) hk (.inl rfl)); have n1_ := Aside0.mk (hb); have n2_ := Aside0.mk (hi); clear HK; clear HB; clear HI0; have HK := n0_; have HB := n1_; have HI0 := n2_; clear n0_ n1_ n2_; (try clear hb); (try clear hb2); (try clear hk); (try clear hi); obtain ⟨ASz5_0, cSz5_0, HGz5, hgz5, HSz5_0⟩ := HI0.out; have hcz5_0 := cellS62_0 HGz5; have hcz5_1 := cellS62_1 HGz5; have hcz5_2 := cellS62_2 HGz5; have hcz5_3 := cellS62_3 HGz5; have hfz5_1 := blk_frozen HGz5 1; have hfz5_2 := blk_frozen HGz5 2; have hfz5_3 := blk_frozen HGz5 3; clear HGz5 hgz5)); try go_wp2_with (first | (go_at_call 95; (with_reducible refine (wire_Reader_Err.calls g s0_0 s0_1 s0_2 s0_3 t115 t116 t117 t118 w0 _ ?side1 ?side2 A2.out).mono ?_); (case side1 => repeat (first | (with_reducible first | exact HI0.out | apply IsS146.alloc | apply IsS146.drewN | apply IsS146.drew | apply IsS146.set_1 | apply IsS146.set_2 | apply IsS146.set_3) | exact HI0.out)); (case side2 => repeat (first | (with_reducible first | exact HB.out | apply below_alloc | apply pw_below_drewN | apply below_drew1 | refine below_set ?_ (IsS146.ge HI0.out)) | exact HB.out)); rintro e w4 ⟨rfl, hi, hb, hk⟩; have n0_ := Aside0.mk (KeepBut.trans (by repeat (first | (with_reducible first | exact HK.out | apply KeepBut.set_ | apply keep_drewN | apply keep_drew | apply keep_alloc) | exact HK.out)) hk (.inl rfl)); have n1_ := Aside0.mk (hb); have n2_ := Aside0.mk (hi); clear HK; clear HB; clear HI0; have HK := n0_; have HB := n1_; have HI0 := n2_; clear n0_ n1_ n2_; (try clear hb); (try clear hb2); (try clear hk); (try clear hi); obtain ⟨ASz5_0, cSz5_0, HGz5, hgz5, HSz5_0⟩ := HI0.out; have hcz5_0 := cellS62_0 HGz5; have hcz5_1 := cellS62_1 HGz5; have hcz5_2 := cellS62_2 HGz5; have hcz5_3 := cellS62_3 HGz5; have hfz5_1 := blk_frozen HGz5 1; have hfz5_2 := blk_frozen HGz5 2; have hfz5_3 := blk_frozen HGz5 3; clear HGz5 hgz5)))
    go_loopg [3, 5] k (fun kq v3 v5 w' => ∃ (x3_1 : Int) (x5_1 : Int) (x1001_1 : Int) (x1002_1 : Int) (x1003_1 : Bool), v3 = .int .u64 x3_1 ∧ v5 = .int .i64 x5_1 ∧ Aside0 (wire_Reader_Number.l0 kq x3_1 t116 x5_1 s0_0 x1001_1 x1002_1 x1003_1 = some (r1, r2, r3, r4)) ∧ Aside0 (kq ≤ k) ∧ Aside0 (IsS146 w0 w' g s0_0 x1001_1 x1002_1 x1003_1) ∧ Aside0 (KeepBut w w' g none) ∧ Aside0 (Below w0.heap.size w0 w'))
    case atStart => exact ⟨(0), (0), (t116), (t117), (t118), (by first | rfl | (simp; done) | (simp [*]; done)), (by first | rfl | (simp; done) | (simp [*]; done)), H', ⟨Nat.le_refl _⟩, ⟨by repeat (first | (with_reducible first | exact HI0.out | apply IsS146.alloc | apply IsS146.drewN | apply IsS146.drew | apply IsS146.set_1 | apply IsS146.set_2 | apply IsS146.set_3) | exact HI0.out)⟩, ⟨by repeat (first | (with_reducible first | exact HK.out | apply KeepBut.set_ | apply keep_drewN | apply keep_drew | apply keep_alloc) | exact HK.out)⟩, ⟨by repeat (first | (with_reducible first | exact HB.out | apply below_alloc | apply pw_below_drewN | apply below_drew1 | refine below_set ?_ (IsS146.ge HI0.out)) | exact HB.out)⟩⟩
    case round =>
      clear H'
      try clear p2
      try clear c3
      try clear c3b0
      try clear c3b1
      try clear hcz5_0
      try clear hcz5_1
      try clear hcz5_2
      try clear hcz5_3
      try clear hfz5_1
      try clear hfz5_2
      try clear hfz5_3
      obtain ⟨x3_1, x5_1, x1001_1, x1002_1, x1003_1, rfl, rfl, HA, HK1, HI0, HK, HB⟩ := hrel
      cases gk with
      | zero => exact absurd HA.out (by simp [wire_Reader_Number.l0])
      | succ k1 =>
        have H := HA.out
        clear HA
        simp only [wire_Reader_Number.l0] at H
        by_cases c6 : x1001_1 = (s0_0.length : Int)
        · rw [if_pos c6] at H
          have c6b0 : (x1001_1 == (s0_0.length : Int)) = true := beq_iff_eq.mpr c6
          have c6b1 : (x1001_1 != (s0_0.length : Int)) = false := bne_eq_false_iff_eq.mpr c6
          clear c6
          replace H := Option.bind_eq_some_iff.mp H
          obtain ⟨⟨t119, t120, t121⟩, A70, H⟩ := H
          replace H : (some (0, t119, t120, t121)) = some (r1, r2, r3, r4) := H
          have A7 := Aside0.mk A70
          clear A70
          simp only [Option.some.injEq, Prod.mk.injEq] at H
          obtain ⟨rfl, rfl, rfl, rfl⟩ := H
          obtain ⟨ASz8_0, cSz8_0, HGz8, hgz8, HSz8_0⟩ := HI0.out
          have hcz8_0 := cellS62_0 HGz8
          have hcz8_1 := cellS62_1 HGz8
          have hcz8_2 := cellS62_2 HGz8
          have hcz8_3 := cellS62_3 HGz8
          have hfz8_1 := blk_frozen HGz8 1
          have hfz8_2 := blk_frozen HGz8 2
          have hfz8_3 := blk_frozen HGz8 3
          clear HGz8 hgz8
          go_wp2_with (first | (go_at_call 96; (with_reducible refine (wire_Reader_stop.calls g s0_0 x1001_1 x1002_1 x1003_1 t116 2 t119 t120 t121 w0 _ ?side1 ?side2 A7.out).mono ?_); (case side1 => repeat (first | (with_reducible first | exact HI0.out | apply IsS146.alloc | apply IsS146.drewN | apply IsS146.drew | apply IsS146.set_1 | apply IsS146.set_2 | apply IsS146.set_3) | exact HI0.out)); (case side2 => repeat (first | (with_reducible first | exact HB.out | apply below_alloc | apply pw_below_drewN | apply below_drew1 | refine below_set ?_ (IsS146.ge HI0.out)) | exact HB.out)); rintro e w9 ⟨rfl, hi, hb, hk⟩; have n0_ := Aside0.mk (KeepBut.trans (by repeat (first | (with_reducible first | exact HK.out | apply KeepBut.set_ | apply keep_drewN | apply keep_drew | apply keep_alloc) | exact HK.out)) hk (.inl rfl)); have n1_ := Aside0.mk (hb); have n2_ := Aside0.mk (hi); clear HK; clear HB; clear HI0; have HK := n0_; have HB := n1_; have HI0 := n2_; clear n0_ n1_ n2_; (try clear hb); (try clear hb2); (try clear hk); (try clear hi)))
          repeat (go_quiet (first | (go_at_call 96; (with_reducible refine (wire_Reader_stop.calls g s0_0 x1001_1 x1002_1 x1003_1 t116 2 t119 t120 t121 w0 _ ?side1 ?side2 A7.out).mono ?_); (case side1 => repeat (first | (with_reducible first | exact HI0.out | apply IsS146.alloc | apply IsS146.drewN | apply IsS146.drew | apply IsS146.set_1 | apply IsS146.set_2 | apply IsS146.set_3) | exact HI0.out)); (case side2 => repeat (first | (with_reducible first | exact HB.out | apply below_alloc | apply pw_below_drewN | apply below_drew1 | refine below_set ?_ (IsS146.ge HI0.out)) | exact HB.out)); rintro e w9 ⟨rfl, hi, hb, hk⟩; have n0_ := Aside0.mk (KeepBut.trans (by repeat (first | (with_reducible first | exact HK.out | apply KeepBut.set_ | apply keep_drewN | apply keep_drew | apply keep_alloc) | exact HK.out)) hk (.inl rfl)); have n1_ := Aside0.mk (hb); have n2_ := Aside0.mk (hi); clear HK; clear HB; clear HI0; have HK := n0_; have HB := n1_; have HI0 := n2_; clear n0_ n1_ n2_; (try clear hb); (try clear hb2); (try clear hk); (try clear hi))); try go_wp2_with (first | (go_at_call 96; (with_reducible refine (wire_Reader_stop.calls g s0_0 x1001_1 x1002_1 x1003_1 t116 2 t119 t120 t121 w0 _ ?side1 ?side2 A7.out).mono ?_); (case side1 => repeat (first | (with_reducible first | exact HI0.out | apply IsS146.alloc | apply IsS146.drewN | apply IsS146.drew | apply IsS146.set_1 | apply IsS146.set_2 | apply IsS146.set_3) | exact HI0.out)); (case side2 => repeat (first | (with_reducible first | exact HB.out | apply below_alloc | apply pw_below_drewN | apply below_drew1 | refine below_set ?_ (IsS146.ge HI0.out)) | exact HB.out)); rintro e w9 ⟨rfl, hi, hb, hk⟩; have n0_ := Aside0.mk (KeepBut.trans (by repeat (first | (with_reducible first | exact HK.out | apply KeepBut.set_ | apply keep_drewN | apply keep_drew | apply keep_alloc) | exact HK.out)) hk (.inl rfl)); have n1_ := Aside0.mk (hb); have n2_ := Aside0.mk (hi); clear HK; clear HB; clear HI0; have HK := n0_; have HB := n1_; have HI0 := n2_; clear n0_ n1_ n2_; (try clear hb); (try clear hb2); (try clear hk); (try clear hi))))
          go_ret
          exact ⟨by first | rfl | (simp [errW_none, errW_some] <;> rfl) | (simp [*, errW_none, errW_some] <;> rfl), by repeat (first | (with_reducible first | exact HI0.out | apply IsS146.alloc | apply IsS146.drewN | apply IsS146.drew | apply IsS146.set_1 | apply IsS146.set_2 | apply IsS146.set_3) | exact HI0.out), by repeat (first | (with_reducible first | exact HB.out | apply below_alloc | apply pw_below_drewN | apply below_drew1 | refine below_set ?_ (IsS146.ge HI0.out)) | exact HB.out), by repeat (first | (with_reducible first | exact HK.out | apply KeepBut.set_ | apply keep_drewN | apply keep_drew | apply keep_alloc) | exact HK.out)⟩
        · rw [if_neg c6] at H
          have c6b0 : (x1001_1 == (s0_0.length : Int)) = false := beq_eq_false_iff_ne.mpr c6
          have c6b1 : (x1001_1 != (s0_0.length : Int)) = true := bne_iff_ne.mpr c6
          by_cases c10 : 0 ≤ x1001_1
          · rw [if_pos c10] at H
            have c10b0 : decide (0 ≤ x1001_1) = true := decide_eq_true c10
            clear c10
            by_cases c11 : x1001_1 < (s0_0.length : Int)
            · rw [if_pos c11] at H
              have c11b0 : decide (x1001_1 < (s0_0.length : Int)) = true := decide_eq_true c11
              clear c11
              have HC12 := Aside0.mk H
              clear H
              obtain ⟨ASz13_0, cSz13_0, HGz13, hgz13, HSz13_0⟩ := HI0.out
              have hcz13_0 := cellS62_0 HGz13
              have hcz13_1 := cellS62_1 HGz13
              have hcz13_2 := cellS62_2 HGz13
              have hcz13_3 := cellS62_3 HGz13
              have hfz13_1 := blk_frozen HGz13 1
              have hfz13_2 := blk_frozen HGz13 2
              have hfz13_3 := blk_frozen HGz13 3
              clear HGz13 hgz13
              have p122 : 0 ≤ (x1001_1 : Int) := of_decide_eq_true (by first | (with_reducible assumption) | assumption)
              have q122 : x1001_1 < (s0_0.length : Int) := of_decide_eq_true (by first | (with_reducible assumption) | assumption)
              obtain ⟨ad122, e122, hx122_0⟩ := Kd.at_int HSz13_0.1 x1001_1 p122 q122
              cases e122
              replace hx122_0 := pw_cell_below HB.out hx122_0
              replace p122 := eq_true p122
              replace q122 := eq_true q122
              go_upto_region 12 with (fail)
              repeat (go_quiet (fail); go_upto_region 12 with (fail))
              go_cut [50] (fun v50 wc => ∃ (kq : Nat) (x50_11 : Bool), v50 = .bool x50_11 ∧ Aside0 (wire_Reader_Number.j1 kq x3_1 t116 x5_1 (rd s0_0 x1001_1) (IntKind.u64.wrap (Go.bits .and .u8 (rd s0_0 x1001_1) 127)) x50_11 s0_0 (wrap64 (x1001_1 + 1)) x1002_1 x1003_1 = some (r1, r2, r3, r4)) ∧ Aside0 (kq ≤ k1) ∧ Aside0 (IsS146 w0 wc g s0_0 (wrap64 (x1001_1 + 1)) x1002_1 x1003_1) ∧ Aside0 (KeepBut w wc g none) ∧ Aside0 (Below w0.heap.size w0 wc))
              case first =>
                have H := HC12.out
                clear HC12
                by_cases c14 : x5_1 = 63
                · rw [if_pos c14] at H
                  have c14b0 : (x5_1 == 63) = true := beq_iff_eq.mpr c14
                  have c14b1 : (x5_1 != 63) = false := bne_eq_false_iff_eq.mpr c14
                  clear c14
                  (first | rw [c14b0] | (simp only [i64_w, i32_w]; rw [c14b0]) | skip)
                  by_cases c15 : (IntKind.u64.wrap (Go.bits .and .u8 (rd s0_0 x1001_1) 127)) > 1
                  · rw [if_pos c15] at H
                    have c15b0 : decide (1 < (IntKind.u64.wrap (Go.bits .and .u8 (rd s0_0 x1001_1) 127))) = true := decide_eq_true c15
                    clear c15
                    have H' := Aside0.mk H
                    clear H
                    go_wp2
                    repeat (go_quiet (fail); try go_wp2)
                    go_meet
                    case rel => exact ⟨_, (true), (by first | rfl | (simp; done) | (simp [*]; done)), H', ⟨by have := HK1.out; first | omega | exact Nat.le_refl _⟩, ⟨by repeat (first | (with_reducible first | exact HI0.out | apply IsS146.alloc | apply IsS146.drewN | apply IsS146.drew | apply IsS146.set_1 | apply IsS146.set_2 | apply IsS146.set_3) | exact HI0.out)⟩, ⟨by repeat (first | (with_reducible first | exact HK.out | apply KeepBut.set_ | apply keep_drewN | apply keep_drew | apply keep_alloc) | exact HK.out)⟩, ⟨by repeat (first | (with_reducible first | exact HB.out | apply below_alloc | apply pw_below_drewN | apply below_drew1 | refine below_set ?_ (IsS146.ge HI0.out)) | exact HB.out)⟩⟩
                  · rw [if_neg c15] at H
                    have c15b0 : decide (1 < (IntKind.u64.wrap (Go.bits .and .u8 (rd s0_0 x1001_1) 127))) = false := decide_eq_false c15
                    clear c15
                    have H' := Aside0.mk H
                    clear H
                    go_wp2
                    repeat (go_quiet (fail); try go_wp2)
                    go_meet
                    case rel => exact ⟨_, (decide (x5_1 > 63)), (by first | rfl | (simp; done) | (simp [*]; done)), H', ⟨by have := HK1.out; first | omega | exact Nat.le_refl _⟩, ⟨by repeat (first | (with_reducible first | exact HI0.out | apply IsS146.alloc | apply IsS146.drewN | apply IsS146.drew | apply IsS146.set_1 | apply IsS146.set_2 | apply IsS146.set_3) | exact HI0.out)⟩, ⟨by repeat (first | (with_reducible first | exact HK.out | apply KeepBut.set_ | apply keep_drewN | apply keep_drew | apply keep_alloc) | exact HK.out)⟩, ⟨by repeat (first | (with_reducible first | exact HB.out | apply below_alloc | apply pw_below_drewN | apply below_drew1 | refine below_set ?_ (IsS146.ge HI0.out)) | exact HB.out)⟩⟩
                · rw [if_neg c14] at H
                  have c14b0 : (x5_1 == 63) = false := beq_eq_false_iff_ne.mpr c14
                  have c14b1 : (x5_1 != 63) = true := bne_iff_ne.mpr c14
                  (first | rw [c14b0] | (simp only [i64_w, i32_w]; rw [c14b0]) | skip)
                  have H' := Aside0.mk H
                  clear H
                  go_wp2
                  repeat (go_quiet (fail); try go_wp2)
                  go_meet
                  case rel => exact ⟨_, (decide (x5_1 > 63)), (by first | rfl | (simp; done) | (simp [*]; done)), H', ⟨by have := HK1.out; first | omega | exact Nat.le_refl _⟩, ⟨by repeat (first | (with_reducible first | exact HI0.out | apply IsS146.alloc | apply IsS146.drewN | apply IsS146.drew | apply IsS146.set_1 | apply IsS146.set_2 | apply IsS146.set_3) | exact HI0.out)⟩, ⟨by repeat (first | (with_reducible first | exact HK.out | apply KeepBut.set_ | apply keep_drewN | apply keep_drew | apply keep_alloc) | exact HK.out)⟩, ⟨by repeat (first | (with_reducible first | exact HB.out | apply below_alloc | apply pw_below_drewN | apply below_drew1 | refine below_set ?_ (IsS146.ge HI0.out)) | exact HB.out)⟩⟩
              case rest =>
                clear HC12
                try clear c1
                try clear p1
                try clear q1
                try clear hx1
                try clear p2
                try clear c3
                try clear c3b0
                try clear c3b1
                try clear c6
                try clear c6b0
                try clear c6b1
                try clear p6
                try clear c10
                try clear c10b0
                try clear c11
                try clear c11b0
                try clear p12
                try clear q12
                try clear hx12
                try clear c14
                try clear c14b0
                try clear c14b1
                try clear c15
                try clear c15b0
                try clear hcz13_0
                try clear hcz13_1
                try clear hcz13_2
                try clear hcz13_3
                try clear hcz5_0
                try clear hcz5_1
                try clear hcz5_2
                try clear hcz5_3
                try clear hcz8_0
                try clear hcz8_1
                try clear hcz8_2
                try clear hcz8_3
                try clear hfz13_1
                try clear hfz13_2
                try clear hfz13_3
                try clear hfz5_1
                try clear hfz5_2
                try clear hfz5_3
                try clear hfz8_1
                try clear hfz8_2
                try clear hfz8_3
                try clear hx122_0
                try clear p122
                try clear p2
                try clear q122
                obtain ⟨kq, x50_11, rfl, HA, HJ11, HI0, HK, HB⟩ := hcut
                cases kq with
                | zero => exact absurd HA.out (by simp [wire_Reader_Number.j1])
                | succ kj11 =>
                  have H := HA.out
                  clear HA
                  simp only [wire_Reader_Number.j1] at H
                  by_cases c16 : x50_11 = true
                  · subst c16
                    have H1 : ((wire_Reader_stop.f s0_0 (wrap64 (x1001_1 + 1)) x1002_1 x1003_1 t116 5).bind fun bt123 => (some (0, bt123.1, bt123.2.1, bt123.2.2))) = some (r1, r2, r3, r4) := by rw [if_pos rfl] at H; exact H
                    clear H
                    have H := H1
                    clear H1
                    replace H := Option.bind_eq_some_iff.mp H
                    obtain ⟨⟨t123, t124, t125⟩, A170, H⟩ := H
                    replace H : (some (0, t123, t124, t125)) = some (r1, r2, r3, r4) := H
                    have A17 := Aside0.mk A170
                    clear A170
                    simp only [Option.some.injEq, Prod.mk.injEq] at H
                    obtain ⟨rfl, rfl, rfl, rfl⟩ := H
                    go_wp2_with (first | (go_at_call 96; (with_reducible refine (wire_Reader_stop.calls g s0_0 (wrap64 (x1001_1 + 1)) x1002_1 x1003_1 t116 5 t123 t124 t125 w0 _ ?side1 ?side2 A17.out).mono ?_); (case side1 => repeat (first | (with_reducible first | exact HI0.out | apply IsS146.alloc | apply IsS146.drewN | apply IsS146.drew | apply IsS146.set_1 | apply IsS146.set_2 | apply IsS146.set_3) | exact HI0.out)); (case side2 => repeat (first | (with_reducible first | exact HB.out | apply below_alloc | apply pw_below_drewN | apply below_drew1 | refine below_set ?_ (IsS146.ge HI0.out)) | exact HB.out)); rintro e w18 ⟨rfl, hi, hb, hk⟩; have n0_ := Aside0.mk (KeepBut.trans (by repeat (first | (with_reducible first | exact HK.out | apply KeepBut.set_ | apply keep_drewN | apply keep_drew | apply keep_alloc) | exact HK.out)) hk (.inl rfl)); have n1_ := Aside0.mk (hb); have n2_ := Aside0.mk (hi); clear HK; clear HB; clear HI0; have HK := n0_; have HB := n1_; have HI0 := n2_; clear n0_ n1_ n2_; (try clear hb); (try clear hb2); (try clear hk); (try clear hi)))
                    repeat (go_quiet (first | (go_at_call 96; (with_reducible refine (wire_Reader_stop.calls g s0_0 (wrap64 (x1001_1 + 1)) x1002_1 x1003_1 t116 5 t123 t124 t125 w0 _ ?side1 ?side2 A17.out).mono ?_); (case side1 => repeat (first | (with_reducible first | exact HI0.out | apply IsS146.alloc | apply IsS146.drewN | apply IsS146.drew | apply IsS146.set_1 | apply IsS146.set_2 | apply IsS146.set_3) | exact HI0.out)); (case side2 => repeat (first | (with_reducible first | exact HB.out | apply below_alloc | apply pw_below_drewN | apply below_drew1 | refine below_set ?_ (IsS146.ge HI0.out)) | exact HB.out)); rintro e w18 ⟨rfl, hi, hb, hk⟩; have n0_ := Aside0.mk (KeepBut.trans (by repeat (first | (with_reducible first | exact HK.out | apply KeepBut.set_ | apply keep_drewN | apply keep_drew | apply keep_alloc) | exact HK.out)) hk (.inl rfl)); have n1_ := Aside0.mk (hb); have n2_ := Aside0.mk (hi); clear HK; clear HB; clear HI0; have HK := n0_; have HB := n1_; have HI0 := n2_; clear n0_ n1_ n2_; (try clear hb); (try clear hb2); (try clear hk); (try clear hi))); try go_wp2_with (first | (go_at_call 96; (with_reducible refine (wire_Reader_stop.calls g s0_0 (wrap64 (x1001_1 + 1)) x1002_1 x1003_1 t116 5 t123 t124 t125 w0 _ ?side1 ?side2 A17.out).mono ?_); (case side1 => repeat (first | (with_reducible first | exact HI0.out | apply IsS146.alloc | apply IsS146.drewN | apply IsS146.drew | apply IsS146.set_1 | apply IsS146.set_2 | apply IsS146.set_3) | exact HI0.out)); (case side2 => repeat (first | (with_reducible first | exact HB.out | apply below_alloc | apply pw_below_drewN | apply below_drew1 | refine below_set ?_ (IsS146.ge HI0.out)) | exact HB.out)); rintro e w18 ⟨rfl, hi, hb, hk⟩; have n0_ := Aside0.mk (KeepBut.trans (by repeat (first | (with_reducible first | exact HK.out | apply KeepBut.set_ | apply keep_drewN | apply keep_drew | apply keep_alloc) | exact HK.out)) hk (.inl rfl)); have n1_ := Aside0.mk (hb); have n2_ := Aside0.mk (hi); clear HK; clear HB; clear HI0; have HK := n0_; have HB := n1_; have HI0 := n2_; clear n0_ n1_ n2_; (try clear hb); (try clear hb2); (try clear hk); (try clear hi))))
                    go_ret
                    exact ⟨by first | rfl | (simp [errW_none, errW_some] <;> rfl) | (simp [*, errW_none, errW_some] <;> rfl), by repeat (first | (with_reducible first | exact HI0.out | apply IsS146.alloc | apply IsS146.drewN | apply IsS146.drew | apply IsS146.set_1 | apply IsS146.set_2 | apply IsS146.set_3) | exact HI0.out), by repeat (first | (with_reducible first | exact HB.out | apply below_alloc | apply pw_below_drewN | apply below_drew1 | refine below_set ?_ (IsS146.ge HI0.out)) | exact HB.out), by repeat (first | (with_reducible first | exact HK.out | apply KeepBut.set_ | apply keep_drewN | apply keep_drew | apply keep_alloc) | exact HK.out)⟩
                  · replace c16 := Bool.eq_false_iff.mpr c16
                    subst c16
                    have H1 : (if (rd s0_0 x1001_1) = 0 then (wire_Reader_Number.j2 kj11 x3_1 t116 x5_1 (rd s0_0 x1001_1) (IntKind.u64.wrap (Go.bits .and .u8 (rd s0_0 x1001_1) 127)) (decide (x5_1 > 0)) s0_0 (wrap64 (x1001_1 + 1)) x1002_1 x1003_1) else (wire_Reader_Number.j2 kj11 x3_1 t116 x5_1 (rd s0_0 x1001_1) (IntKind.u64.wrap (Go.bits .and .u8 (rd s0_0 x1001_1) 127)) false s0_0 (wrap64 (x1001_1 + 1)) x1002_1 x1003_1)) = some (r1, r2, r3, r4) := by rw [if_neg (show ¬ (false = true) by decide)] at H; exact H
                    clear H
                    have H := H1
                    clear H1
                    have HC19 := Aside0.mk H
                    clear H
                    go_upto_region 15 with (fail)
                    repeat (go_quiet (fail); go_upto_region 15 with (fail))
                    go_cut [64] (fun v64 wc => ∃ (kq : Nat) (x64_18 : Bool), v64 = .bool x64_18 ∧ Aside0 (wire_Reader_Number.j2 kq x3_1 t116 x5_1 (rd s0_0 x1001_1) (IntKind.u64.wrap (Go.bits .and .u8 (rd s0_0 x1001_1) 127)) x64_18 s0_0 (wrap64 (x1001_1 + 1)) x1002_1 x1003_1 = some (r1, r2, r3, r4)) ∧ Aside0 (kq ≤ kj11) ∧ Aside0 (IsS146 w0 wc g s0_0 (wrap64 (x1001_1 + 1)) x1002_1 x1003_1) ∧ Aside0 (KeepBut w wc g none) ∧ Aside0 (Below w0.heap.size w0 wc))
                    case first =>
                      have H := HC19.out
                      clear HC19
                      by_cases c20 : (rd s0_0 x1001_1) = 0
                      · rw [if_pos c20] at H
                        have c20b0 : ((rd s0_0 x1001_1) == 0) = true := beq_iff_eq.mpr c20
                        have c20b1 : ((rd s0_0 x1001_1) != 0) = false := bne_eq_false_iff_eq.mpr c20
                        clear c20
                        (first | rw [c20b0] | (simp only [i64_w, i32_w]; rw [c20b0]) | skip)
                        have H' := Aside0.mk H
                        clear H
                        go_wp2
                        repeat (go_quiet (fail); try go_wp2)
                        go_meet
                        case rel => exact ⟨_, (decide (x5_1 > 0)), (by first | rfl | (simp; done) | (simp [*]; done)), H', ⟨by have := HK1.out; have := HJ11.out; first | omega | exact Nat.le_refl _⟩, ⟨by repeat (first | (with_reducible first | exact HI0.out | apply IsS146.alloc | apply IsS146.drewN | apply IsS146.drew | apply IsS146.set_1 | apply IsS146.set_2 | apply IsS146.set_3) | exact HI0.out)⟩, ⟨by repeat (first | (with_reducible first | exact HK.out | apply KeepBut.set_ | apply keep_drewN | apply keep_drew | apply keep_alloc) | exact HK.out)⟩, ⟨by repeat (first | (with_reducible first | exact HB.out | apply below_alloc | apply pw_below_drewN | apply below_drew1 | refine below_set ?_ (IsS146.ge HI0.out)) | exact HB.out)⟩⟩
                      · rw [if_neg c20] at H
                        have c20b0 : ((rd s0_0 x1001_1) == 0) = false := beq_eq_false_iff_ne.mpr c20
                        have c20b1 : ((rd s0_0 x1001_1) != 0) = true := bne_iff_ne.mpr c20
                        (first | rw [c20b0] | (simp only [i64_w, i32_w]; rw [c20b0]) | skip)
                        have H' := Aside0.mk H
                        clear H
                        go_wp2
                        repeat (go_quiet (fail); try go_wp2)
                        go_meet
                        case rel => exact ⟨_, (false), (by first | rfl | (simp; done) | (simp [*]; done)), H', ⟨by have := HK1.out; have := HJ11.out; first | omega | exact Nat.le_refl _⟩, ⟨by repeat (first | (with_reducible first | exact HI0.out | apply IsS146.alloc | apply IsS146.drewN | apply IsS146.drew | apply IsS146.set_1 | apply IsS146.set_2 | apply IsS146.set_3) | exact HI0.out)⟩, ⟨by repeat (first | (with_reducible first | exact HK.out | apply KeepBut.set_ | apply keep_drewN | apply keep_drew | apply keep_alloc) | exact HK.out)⟩, ⟨by repeat (first | (with_reducible first | exact HB.out | apply below_alloc | apply pw_below_drewN | apply below_drew1 | refine below_set ?_ (IsS146.ge HI0.out)) | exact HB.out)⟩⟩
                    case rest =>
                      clear HC19
                      try clear c1
                      try clear p1
                      try clear q1
                      try clear hx1
                      try clear c2
                      try clear p2
                      try clear c3
                      try clear c3b0
                      try clear c3b1
                      try clear c6
                      try clear c6b0
                      try clear c6b1
                      try clear p6
                      try clear c10
                      try clear c10b0
                      try clear c11
                      try clear c11b0
                      try clear p12
                      try clear q12
                      try clear hx12
                      try clear c14
                      try clear c14b0
                      try clear c14b1
                      try clear c15
                      try clear c15b0
                      try clear c16
                      try clear c20
                      try clear c20b0
                      try clear c20b1
                      try clear hcz13_0
                      try clear hcz13_1
                      try clear hcz13_2
                      try clear hcz13_3
                      try clear hcz5_0
                      try clear hcz5_1
                      try clear hcz5_2
                      try clear hcz5_3
                      try clear hcz8_0
                      try clear hcz8_1
                      try clear hcz8_2
                      try clear hcz8_3
                      try clear hfz13_1
                      try clear hfz13_2
                      try clear hfz13_3
                      try clear hfz5_1
                      try clear hfz5_2
                      try clear hfz5_3
                      try clear hfz8_1
                      try clear hfz8_2
                      try clear hfz8_3
                      try clear hx122_0
                      try clear p1
                      try clear p12
                      try clear p122
                      try clear p2
                      try clear p6
                      try clear q1
                      try clear q12
                      try clear q122
                      obtain ⟨kq, x64_18, rfl, HA, HJ18, HI0, HK, HB⟩ := hcut
                      cases kq with
                      | zero => exact absurd HA.out (by simp [wire_Reader_Number.j2])
                      | succ kj18 =>
                        have H := HA.out
                        clear HA
                        simp only [wire_Reader_Number.j2] at H
                        by_cases c21 : x64_18 = true
                        · subst c21
                          have H1 : ((wire_Reader_stop.f s0_0 (wrap64 (x1001_1 + 1)) x1002_1 x1003_1 t116 10).bind fun bt126 => (some (0, bt126.1, bt126.2.1, bt126.2.2))) = some (r1, r2, r3, r4) := by rw [if_pos rfl] at H; exact H
                          clear H
                          have H := H1
                          clear H1
                          replace H := Option.bind_eq_some_iff.mp H
                          obtain ⟨⟨t126, t127, t128⟩, A220, H⟩ := H
                          replace H : (some (0, t126, t127, t128)) = some (r1, r2, r3, r4) := H
                          have A22 := Aside0.mk A220
                          clear A220
                          simp only [Option.some.injEq, Prod.mk.injEq] at H
                          obtain ⟨rfl, rfl, rfl, rfl⟩ := H
                          go_wp2_with (first | (go_at_call 96; (with_reducible refine (wire_Reader_stop.calls g s0_0 (wrap64 (x1001_1 + 1)) x1002_1 x1003_1 t116 10 t126 t127 t128 w0 _ ?side1 ?side2 A22.out).mono ?_); (case side1 => repeat (first | (with_reducible first | exact HI0.out | apply IsS146.alloc | apply IsS146.drewN | apply IsS146.drew | apply IsS146.set_1 | apply IsS146.set_2 | apply IsS146.set_3) | exact HI0.out)); (case side2 => repeat (first | (with_reducible first | exact HB.out | apply below_alloc | apply pw_below_drewN | apply below_drew1 | refine below_set ?_ (IsS146.ge HI0.out)) | exact HB.out)); rintro e w23 ⟨rfl, hi, hb, hk⟩; have n0_ := Aside0.mk (KeepBut.trans (by repeat (first | (with_reducible first | exact HK.out | apply KeepBut.set_ | apply keep_drewN | apply keep_drew | apply keep_alloc) | exact HK.out)) hk (.inl rfl)); have n1_ := Aside0.mk (hb); have n2_ := Aside0.mk (hi); clear HK; clear HB; clear HI0; have HK := n0_; have HB := n1_; have HI0 := n2_; clear n0_ n1_ n2_; (try clear hb); (try clear hb2); (try clear hk); (try clear hi)))
                          repeat (go_quiet (first | (go_at_call 96; (with_reducible refine (wire_Reader_stop.calls g s0_0 (wrap64 (x1001_1 + 1)) x1002_1 x1003_1 t116 10 t126 t127 t128 w0 _ ?side1 ?side2 A22.out).mono ?_); (case side1 => repeat (first | (with_reducible first | exact HI0.out | apply IsS146.alloc | apply IsS146.drewN | apply IsS146.drew | apply IsS146.set_1 | apply IsS146.set_2 | apply IsS146.set_3) | exact HI0.out)); (case side2 => repeat (first | (with_reducible first | exact HB.out | apply below_alloc | apply pw_below_drewN | apply below_drew1 | refine below_set ?_ (IsS146.ge HI0.out)) | exact HB.out)); rintro e w23 ⟨rfl, hi, hb, hk⟩; have n0_ := Aside0.mk (KeepBut.trans (by repeat (first | (with_reducible first | exact HK.out | apply KeepBut.set_ | apply keep_drewN | apply keep_drew | apply keep_alloc) | exact HK.out)) hk (.inl rfl)); have n1_ := Aside0.mk (hb); have n2_ := Aside0.mk (hi); clear HK; clear HB; clear HI0; have HK := n0_; have HB := n1_; have HI0 := n2_; clear n0_ n1_ n2_; (try clear hb); (try clear hb2); (try clear hk); (try clear hi))); try go_wp2_with (first | (go_at_call 96; (with_reducible refine (wire_Reader_stop.calls g s0_0 (wrap64 (x1001_1 + 1)) x1002_1 x1003_1 t116 10 t126 t127 t128 w0 _ ?side1 ?side2 A22.out).mono ?_); (case side1 => repeat (first | (with_reducible first | exact HI0.out | apply IsS146.alloc | apply IsS146.drewN | apply IsS146.drew | apply IsS146.set_1 | apply IsS146.set_2 | apply IsS146.set_3) | exact HI0.out)); (case side2 => repeat (first | (with_reducible first | exact HB.out | apply below_alloc | apply pw_below_drewN | apply below_drew1 | refine below_set ?_ (IsS146.ge HI0.out)) | exact HB.out)); rintro e w23 ⟨rfl, hi, hb, hk⟩; have n0_ := Aside0.mk (KeepBut.trans (by repeat (first | (with_reducible first | exact HK.out | apply KeepBut.set_ | apply keep_drewN | apply keep_drew | apply keep_alloc) | exact HK.out)) hk (.inl rfl)); have n1_ := Aside0.mk (hb); have n2_ := Aside0.mk (hi); clear HK; clear HB; clear HI0; have HK := n0_; have HB := n1_; have HI0 := n2_; clear n0_ n1_ n2_; (try clear hb); (try clear hb2); (try clear hk); (try clear hi))))
                          go_ret
                          exact ⟨by first | rfl | (simp [errW_none, errW_some] <;> rfl) | (simp [*, errW_none, errW_some] <;> rfl), by repeat (first | (with_reducible first | exact HI0.out | apply IsS146.alloc | apply IsS146.drewN | apply IsS146.drew | apply IsS146.set_1 | apply IsS146.set_2 | apply IsS146.set_3) | exact HI0.out), by repeat (first | (with_reducible first | exact HB.out | apply below_alloc | apply pw_below_drewN | apply below_drew1 | refine below_set ?_ (IsS146.ge HI0.out)) | exact HB.out), by repeat (first | (with_reducible first | exact HK.out | apply KeepBut.set_ | apply keep_drewN | apply keep_drew | apply keep_alloc) | exact HK.out)⟩
                        · replace c21 := Bool.eq_false_iff.mpr c21
                          subst c21
                          have H1 : (if 0 ≤ x5_1 then (if (rd s0_0 x1001_1) < 128 then (some (Go.bits .or .u64 x3_1 (shl .u64 (IntKind.u64.wrap (Go.bits .and .u8 (rd s0_0 x1001_1) 127)) x5_1), (wrap64 (x1001_1 + 1)), x1002_1, x1003_1)) else (wire_Reader_Number.l0 kj18 (Go.bits .or .u64 x3_1 (shl .u64 (IntKind.u64.wrap (Go.bits .and .u8 (rd s0_0 x1001_1) 127)) x5_1)) t116 (wrap64 (x5_1 + 7)) s0_0 (wrap64 (x1001_1 + 1)) x1002_1 x1003_1)) else (none)) = some (r1, r2, r3, r4) := by rw [if_neg (show ¬ (false = true) by decide)] at H; exact H
                          clear H
                          have H := H1
                          clear H1
                          by_cases c24 : 0 ≤ x5_1
                          · rw [if_pos c24] at H
                            have c24b0 := eq_true c24
                            have c24b1 : decide (0 ≤ x5_1) = true := decide_eq_true c24
                            clear c24
                            obtain ⟨ji25, hji25⟩ : ∃ j_ : Int, (shl .u64 (IntKind.u64.wrap (Go.bits .and .u8 (rd s0_0 x1001_1) 127)) x5_1) = j_ := ⟨_, rfl⟩
                            replace H : (if (rd s0_0 x1001_1) < 128 then (some (Go.bits .or .u64 x3_1 (ji25), (wrap64 (x1001_1 + 1)), x1002_1, x1003_1)) else (wire_Reader_Number.l0 kj18 (Go.bits .or .u64 x3_1 (ji25)) t116 (wrap64 (x5_1 + 7)) s0_0 (wrap64 (x1001_1 + 1)) x1002_1 x1003_1)) = some (r1, r2, r3, r4) := by first | (rw [hji25] at H; exact H) | (simp only [hji25] at H ⊢; exact H)
                            have hji25_ : (IntKind.u64.wrap ((IntKind.u64.wrap (Go.bits .and .u8 (rd s0_0 x1001_1) 127)) * 2 ^ min x5_1.toNat 64)) = ji25 := hji25
                            have hji25z : x5_1 ≤ 64 → (IntKind.u64.wrap ((IntKind.u64.wrap (Go.bits .and .u8 (rd s0_0 x1001_1) 127)) * 2 ^ x5_1.toNat)) = ji25 := shl_small hji25
                            by_cases c26 : (rd s0_0 x1001_1) < 128
                            · rw [if_pos c26] at H
                              have c26b0 : decide ((rd s0_0 x1001_1) < 128) = true := decide_eq_true c26
                              clear c26
                              simp only [Option.some.injEq, Prod.mk.injEq] at H
                              obtain ⟨rfl, rfl, rfl, rfl⟩ := H
                              go_wp2
                              repeat (go_quiet (fail); try go_wp2)
                              go_ret
                              exact ⟨by first | rfl | (simp [errW_none, errW_some] <;> rfl) | (simp only [← hji25]; first | rfl | (simp [errW_none, errW_some] <;> rfl)) | (simp [*, errW_none, errW_some] <;> rfl), by (try simp only [hji25]); repeat (first | (with_reducible first | exact HI0.out | apply IsS146.alloc | apply IsS146.drewN | apply IsS146.drew | apply IsS146.set_1 | apply IsS146.set_2 | apply IsS146.set_3) | exact HI0.out), by repeat (first | (with_reducible first | exact HB.out | apply below_alloc | apply pw_below_drewN | apply below_drew1 | refine below_set ?_ (IsS146.ge HI0.out)) | exact HB.out), by repeat (first | (with_reducible first | exact HK.out | apply KeepBut.set_ | apply keep_drewN | apply keep_drew | apply keep_alloc) | exact HK.out)⟩
                            · rw [if_neg c26] at H
                              have c26b0 : decide ((rd s0_0 x1001_1) < 128) = false := decide_eq_false c26
                              clear c26
                              have H' := Aside0.mk H
                              clear H
                              go_wp2
                              repeat (go_quiet (fail); try go_wp2)
                              go_roundg kj18
                              case measure => have := HK1.out; have := HJ11.out; have := HJ18.out; omega
                              case rel => exact ⟨(Go.bits .or .u64 x3_1 (ji25)), (wrap64 (x5_1 + 7)), ((wrap64 (x1001_1 + 1))), (x1002_1), (x1003_1), (by first | rfl | (simp; done) | (simp only [← hji25] <;> (first | rfl | simp)) | (simp [*]; done)), (by first | rfl | (simp; done) | (simp [*]; done)), H', ⟨by have := HK1.out; have := HJ11.out; have := HJ18.out; omega⟩, ⟨by (try simp only [hji25]); repeat (first | (with_reducible first | exact HI0.out | apply IsS146.alloc | apply IsS146.drewN | apply IsS146.drew | apply IsS146.set_1 | apply IsS146.set_2 | apply IsS146.set_3) | exact HI0.out)⟩, ⟨by repeat (first | (with_reducible first | exact HK.out | apply KeepBut.set_ | apply keep_drewN | apply keep_drew | apply keep_alloc) | exact HK.out)⟩, ⟨by repeat (first | (with_reducible first | exact HB.out | apply below_alloc | apply pw_below_drewN | apply below_drew1 | refine below_set ?_ (IsS146.ge HI0.out)) | exact HB.out)⟩⟩
                          · rw [if_neg c24] at H
                            exact absurd H (by simp)
            · rw [if_neg c11] at H
              exact absurd H (by simp)
          · rw [if_neg c10] at H
            exact absurd H (by simp)
  · rw [if_neg c3] at H
    have c3b0 : (t115 == 0) = false := beq_eq_false_iff_ne.mpr c3
    have c3b1 : (t115 != 0) = true := bne_iff_ne.mpr c3
    simp only [Option.some.injEq, Prod.mk.injEq] at H
    obtain ⟨rfl, rfl, rfl, rfl⟩ := H
    go_enter Try.func94, Try.ntmps94
    go_wp2_with (first | (go_at_call 95; (with_reducible refine (wire_Reader_Err.calls g s0_0 s0_1 s0_2 s0_3 t115 t116 t117 t118 w0 _ ?side1 ?side2 A2.out).mono ?_); (case side1 => repeat (first | (with_reducible first | exact HI0.out | apply IsS146.alloc | apply IsS146.drewN | apply IsS146.drew | apply IsS146.set_1 | apply IsS146.set_2 | apply IsS146.set_3) | exact HI0.out)); (case side2 => repeat (first | (with_reducible first | exact HB.out | apply below_alloc | apply pw_below_drewN | apply below_drew1 | refine below_set ?_ (IsS146.ge HI0.out)) | exact HB.out)); rintro e w27 ⟨rfl, hi, hb, hk⟩; have n0_ := Aside0.mk (KeepBut.trans (by repeat (first | (with_reducible first | exact HK.out | apply KeepBut.set_ | apply keep_drewN | apply keep_drew | apply keep_alloc) | exact HK.out)) hk (.inl rfl)); have n1_ := Aside0.mk (hb); have n2_ := Aside0.mk (hi); clear HK; clear HB; clear HI0; have HK := n0_; have HB := n1_; have HI0 := n2_; clear n0_ n1_ n2_; (try clear hb); (try clear hb2); (try clear hk); (try clear hi)))
    repeat (go_quiet (first | (go_at_call 95; (with_reducible refine (wire_Reader_Err.calls g s0_0 s0_1 s0_2 s0_3 t115 t116 t117 t118 w0 _ ?side1 ?side2 A2.out).mono ?_); (case side1 => repeat (first | (with_reducible first | exact HI0.out | apply IsS146.alloc | apply IsS146.drewN | apply IsS146.drew | apply IsS146.set_1 | apply IsS146.set_2 | apply IsS146.set_3) | exact HI0.out)); (case side2 => repeat (first | (with_reducible first | exact HB.out | apply below_alloc | apply pw_below_drewN | apply below_drew1 | refine below_set ?_ (IsS146.ge HI0.out)) | exact HB.out)); rintro e w27 ⟨rfl, hi, hb, hk⟩; have n0_ := Aside0.mk (KeepBut.trans (by repeat (first | (with_reducible first | exact HK.out | apply KeepBut.set_ | apply keep_drewN | apply keep_drew | apply keep_alloc) | exact HK.out)) hk (.inl rfl)); have n1_ := Aside0.mk (hb); have n2_ := Aside0.mk (hi); clear HK; clear HB; clear HI0; have HK := n0_; have HB := n1_; have HI0 := n2_; clear n0_ n1_ n2_; (try clear hb); (try clear hb2); (try clear hk); (try clear hi))); try go_wp2_with (first | (go_at_call 95; (with_reducible refine (wire_Reader_Err.calls g s0_0 s0_1 s0_2 s0_3 t115 t116 t117 t118 w0 _ ?side1 ?side2 A2.out).mono ?_); (case side1 => repeat (first | (with_reducible first | exact HI0.out | apply IsS146.alloc | apply IsS146.drewN | apply IsS146.drew | apply IsS146.set_1 | apply IsS146.set_2 | apply IsS146.set_3) | exact HI0.out)); (case side2 => repeat (first | (with_reducible first | exact HB.out | apply below_alloc | apply pw_below_drewN | apply below_drew1 | refine below_set ?_ (IsS146.ge HI0.out)) | exact HB.out)); rintro e w27 ⟨rfl, hi, hb, hk⟩; have n0_ := Aside0.mk (KeepBut.trans (by repeat (first | (with_reducible first | exact HK.out | apply KeepBut.set_ | apply keep_drewN | apply keep_drew | apply keep_alloc) | exact HK.out)) hk (.inl rfl)); have n1_ := Aside0.mk (hb); have n2_ := Aside0.mk (hi); clear HK; clear HB; clear HI0; have HK := n0_; have HB := n1_; have HI0 := n2_; clear n0_ n1_ n2_; (try clear hb); (try clear hb2); (try clear hk); (try clear hi))))
    go_ret
    exact ⟨by first | rfl | (simp [errW_none, errW_some] <;> rfl) | (simp [*, errW_none, errW_some] <;> rfl), by repeat (first | (with_reducible first | exact HI0.out | apply IsS146.alloc | apply IsS146.drewN | apply IsS146.drew | apply IsS146.set_1 | apply IsS146.set_2 | apply IsS146.set_3) | exact HI0.out), by repeat (first | (with_reducible first | exact HB.out | apply below_alloc | apply pw_below_drewN | apply below_drew1 | refine below_set ?_ (IsS146.ge HI0.out)) | exact HB.out), by repeat (first | (with_reducible first | exact HK.out | apply KeepBut.set_ | apply keep_drewN | apply keep_drew | apply keep_alloc) | exact HK.out)⟩
end Go.Proofs.Ytehjbhnlbjbhfaa.WBase
-- PutT
namespace Go.Proofs.Ytehjbhnlbjbhfaa.Wire
open Go Go.RowKit Go.Proofs.YtehjbhnlbjbhfaaW.PrintWords Go.Proofs.YtehjbhnlbjbhfaaW.PrintLast Go.Proofs.YtehjbhnlbjbhfaaW.PrintMore
set_option linter.unusedVariables false
theorem info5 : (Try.prog.info? 5).map (fun i => (i.zero, i.size, i.bytes)) = some (some (.int .u8 0), 1, 1) := by kernel_rfl
def enc : Nat → Nat → List Int
  | 0, n => [(n : Int)]
  | f + 1, n => if n < 128 then [(n : Int)] else (128 + n % 128 : Int) :: enc f (n / 128)
theorem enc_ne (f n : Nat) : enc f n ≠ [] := by
  cases f with
  | zero => simp [enc]
  | succ f => unfold enc; split <;> simp
theorem enc_len (f : Nat) : ∀ n, (enc f n).length ≤ f + 1 := by
  induction f with
  | zero => intro n; simp [enc]
  | succ f ih => intro n; unfold enc; split
                 · simp
                 · have := ih (n / 128); simp; omega
def encs (l : List Int) : List Int := l.flatMap fun n => enc 9 n.toNat
theorem encs_len (l : List Int) : (encs l).length ≤ 10 * l.length := by
  induction l with
  | nil => simp [encs]
  | cons a l ih =>
    have := enc_len 9 a.toNat
    unfold encs at *
    rw [List.flatMap_cons, List.length_append, List.length_cons]; omega
theorem encs_snoc (l : List Int) (a : Int) : encs (l ++ [a]) = encs l ++ enc 9 a.toNat := by unfold encs; rw [List.flatMap_append]; simp
theorem encs_take (l : List Int) (j : Nat) (h : j < l.length) : encs (l.take (j + 1)) = encs (l.take j) ++ enc 9 (rd l j).toNat := by
  rw [List.take_succ_eq_append_getElem h, encs_snoc]
  have : l[j] = rd l (j : Int) := by unfold rd; rw [Int.toNat_natCast, List.getD_eq_getElem?_getD, List.getElem?_eq_getElem h]; rfl
  rw [this]
theorem encs_nil {l : List Int} (h : encs l = []) : l = [] := by
  cases l with
  | nil => rfl
  | cons a l =>
    unfold encs at h
    rw [List.flatMap_cons] at h
    exact absurd (List.append_eq_nil_iff.1 h).1 (enc_ne _ _)
theorem or128 : ∀ a : Nat, a < 256 → Go.bits .or .u8 (a : Int) 128 = ((128 + a % 128 : Nat) : Int) := by decide +kernel
def OnO (A : Option Addr) (l : List Int) (W : World) (base : Nat) (v : Value) (xs : List Int) : Prop :=
  (v = .slice A l.length l.length ∧ xs = l ∧ Kd.C (Kd.int .u8) W A l.length l ∧ (A = none → l = [])) ∨ Kd.R (Kd.int .u8) 5 W base (fun _ => True) v xs
theorem OnO.slice {A : Option Addr} {l : List Int} {W : World} {base : Nat} {v : Value} {xs : List Int} (h : OnO A l W base v xs) : ∃ A' c, v = .slice A' xs.length c := by
  rcases h with ⟨rfl, rfl, _, _⟩ | h
  · exact ⟨_, _, rfl⟩
  · exact Kd.R_slice h
theorem OnO.below {A : Option Addr} {l : List Int} {W W1 : World} {base : Nat} {v : Value} {xs : List Int} (h : OnO A l W base v xs) (hb : Below W.heap.size W W1) : OnO A l W1 base v xs := by
  rcases h with ⟨h1, h2, h3, h4⟩ | h
  · exact .inl ⟨h1, h2, Kd.C_below h3 hb, h4⟩
  · exact .inr (Kd.R_below h hb)
theorem append_on {ops : Array Oper} {rest : List Oper} {o : Oper} {a : Act} {Q : Exit → Act → World → Prop} {w0 W : World} (base : Nat) (hgd : o.guard = none) (s x : Operand)
    (ho : o.op = .call { callee := .builtin .append, args := #[s, x], argTypes := #[32, 32] }) (A : Option Addr) (l : List Int) (v : Value) (xs : List Int) (p : Int) (hs : a.eval s = v) (hx : a.eval x = .slice (some ⟨W.heap.size, 0, none⟩) 1 1)
    (HO : OnO A l W base v xs) (HB : Below base w0 W) (hbase : base ≤ W.heap.size) (hl : xs.length + 1 ≤ 140737488355328)
    (h : ∀ v1 w1, Kd.R (Kd.int .u8) 5 w1 base (fun _ => True) v1 (xs ++ [p]) → Below base w0 w1 → wpList Try.prog ops Q rest (a.put o.dst v1) w1) :
    wpList Try.prog ops Q (o :: rest) a (W.alloc (.cells #[.int .u8 p] 5)) := by
  rcases HO with ⟨rfl, rfl, hC, hn⟩ | HR
  · obtain ⟨i0, hi, hz0, hz1, hz2⟩ := info_parts info5
    have hsz : (W.alloc (.cells #[.int .u8 p] 5)).heap.size = W.heap.size + 1 := by simp
    have hb1 := HB.alloc hbase (.cells #[.int .u8 p] 5)
    refine wpList_append_grows (W.alloc (.cells #[.int .u8 p] 5)) hgd s x 32 ho 5 i0 (.int .u8 0) 1 1 Try.underlying32 hi hz0 hz1 hz2 rfl (by decide) A xs.length xs.length (nums .u8 xs) hs (fun e => by rw [hn e]; exact ⟨rfl, rfl⟩) (by simp [nums]) ?_ ⟨W.heap.size, 0, none⟩ 1 1 [.int .u8 p] hx rfl ?_ (by simp [Value.oneCell']) (by omega) (by unfold maxLen; omega) (by omega) ?_
    · intro b e j u hj
      subst e
      have hlt : j < xs.length := by have := (List.getElem?_eq_some_iff.1 hj).1; simpa [nums] using this
      obtain ⟨ad, e2, hc⟩ := Kd.at_int hC (j : Int) (by omega) (by omega)
      cases e2
      rw [Int.toNat_natCast] at hc
      have hu : u = .int .u8 (rd xs (j : Int)) := by
        simp only [nums, List.getElem?_map, List.getElem?_eq_getElem hlt, Option.map_some, Option.some.injEq] at hj
        rw [← hj]; unfold rd; rw [Int.toNat_natCast, List.getD_eq_getElem?_getD, List.getElem?_eq_getElem hlt]; rfl
      rw [hu]
      exact (World.cell?_alloc_lt _ _ _ (World.block_lt_of_cell? W _ hc)).trans hc
    · intro j u hj
      have : j = 0 := by have := (List.getElem?_eq_some_iff.1 hj).1; simp at this; omega
      subst this
      simp at hj
      subst hj
      rw [add_plain]
      simp
    · intro v1 w1 hown hg
      refine h v1 w1 (Kd.R_of_own (enc := Value.int .u8) (h1 := fun _ => rfl) ?_ (fun _ _ => trivial)) (hb1.grown hg (by omega) (fun k hk => by cases hk))
      have := own_weaken hown (base' := base) (by omega)
      show w1.ownsRow base 5 1 v1 (xs ++ [p]).length (Go.Proofs.YtehjbhnlbjbhfaaW.PrintWords.encs (Value.int .u8) (xs ++ [p]))
      rw [List.length_append]
      simpa [nums, Go.Proofs.YtehjbhnlbjbhfaaW.PrintWords.encs] using this
  · refine Kd.R_append (Kd.int .u8) (w0 := w0) base hgd s x 32 5 (.int .u8 0) 1 ho Try.underlying32 info5 rfl (by decide) (by omega) v xs p [.int .u8 p] (fun _ => True) (fun _ => False) hs hx rfl (fun _ hk => hk.elim) (fun _ _ => trivial) HR HB hbase (by omega) ?_
    intro v1 w1 h1 h2 _ _
    exact h v1 w1 h1 h2
set_option maxHeartbeats 2000000 in
set_option maxRecDepth 100000 in
theorem Put_any (A0 : Option Addr) (c0 : Nat) (l0 : List Int) (A1 : Option Addr) (c1 : Nat) (l1 : List Int) (w : World) (hr0 : Kd.C (Kd.int .u8) w A0 l0.length l0) (hc0 : l0.length ≤ c0) (hr1 : Kd.C (Kd.int .u64) w A1 l1.length l1) (hc1 : l1.length ≤ c1)
    (hn : A0 = none → l0 = []) (hb1 : ∀ x ∈ l1, 0 ≤ x ∧ x < 18446744073709551616) (hlen : l0.length + 10 * l1.length < 140737488355328) :
    Calls Try.prog 77 #[.slice A0 l0.length c0, .slice A1 l1.length c1] w fun e w' => ∃ v, e = .returned v ∧ OnO A0 l0 w' w.heap.size v (l0 ++ encs l1) ∧ Below w.heap.size w w' := by
  have HR0 := Aside0.mk hr0
  have HC0 := Aside0.mk hc0
  have HR1 := Aside0.mk hr1
  have HC1 := Aside0.mk hc1
  have HN := Aside0.mk hn
  have HB1 := Aside0.mk hb1
  clear hr0 hr1 hc1 hn hb1
  have hm1 := HR1.out.2.1
  go_enter Try.func77, Try.ntmps77
  go_wp2
  go_loopw [0, 15] (fun v0 v15 wr => ∃ j : Nat, j ≤ l1.length ∧ v15 = .int .i64 (j : Int) ∧ Aside0 (OnO A0 l0 wr w.heap.size v0 (l0 ++ encs (l1.take j))) ∧ Aside0 (Below w.heap.size w wr)) (fun _ v15 _ => (l1.length - intOf v15).toNat)
  case atStart => exact ⟨0, by omega, rfl, ⟨.inl ⟨rfl, by simp [encs], HR0.out, HN.out⟩⟩, ⟨Below.refl _ _⟩⟩
  case round =>
    obtain ⟨j, hj, rfl, HO, HB⟩ := hrel
    by_cases hlt : j < l1.length
    · obtain ⟨ad, e0, hx⟩ := Kd.at_int HR1.out (j : Int) (by omega) (by omega)
      cases e0
      replace hx := (HB.out.cell (World.block_lt_of_cell? w _ hx)).trans hx
      rw [Int.toNat_natCast] at hx
      have hmem : rd l1 (j : Int) ∈ l1 := by unfold rd; rw [Int.toNat_natCast, List.getD_eq_getElem?_getD, List.getElem?_eq_getElem hlt]; exact List.getElem_mem hlt
      obtain ⟨hp0, hp1⟩ := HB1.out _ hmem
      have HT := Aside0.mk (encs_take l1 j hlt)
      have HTL := Aside0.mk (encs_len (l1.take j))
      have htl : (l1.take j).length ≤ j := List.length_take_le _ _
      clear hmem
      generalize rd l1 (j : Int) = y at *
      obtain ⟨n, rfl⟩ := Int.eq_ofNat_of_zero_le hp0
      rw [Int.toNat_natCast] at HT
      obtain ⟨wo, rfl⟩ : ∃ wo : World, wo = wr := ⟨_, rfl⟩
      go_wp2
      go_loopw [0, 6] (fun v0 v6 wr => ∃ (f m : Nat) (acc : List Int), v6 = .int .u64 (m : Int) ∧ m < 18446744073709551616 ∧ Aside0 (m < 128 ^ (f + 1) ∧ acc.length + (enc f m).length ≤ l0.length + 10 * l1.length ∧ acc ++ enc f m = l0 ++ encs (l1.take (j + 1))) ∧ Aside0 (OnO A0 l0 wr w.heap.size v0 acc) ∧ Aside0 (Below w.heap.size w wr)) (fun _ v6 _ => (intOf v6).toNat)
      case atStart => exact ⟨9, n, l0 ++ encs (l1.take j), rfl, by omega, ⟨by omega, by have h1 := HTL.out; have h2 := enc_len 9 n; rw [List.length_append]; omega, by rw [HT.out, List.append_assoc]⟩, HO, HB⟩
      case round =>
        obtain ⟨f, m, acc, rfl, hm, HF, HO, HB⟩ := hrel
        have HM := Aside0.mk hm
        clear hm
        have HLEN := Aside0.mk (show acc.length + 1 ≤ 140737488355328 by have h1 := HF.out.2.1; have h2 := List.length_pos_iff.2 (enc_ne f m); omega)
        have HJ := Aside0.mk hj
        have HLT := Aside0.mk hlt
        have HL1 := Aside0.mk hm1
        clear hp0 hp1 hx htl hlt hj hm1 hlen hc0
        by_cases hge : m < 128
        · have d1 : decide ((128 : Int) ≤ (m : Int)) = false := decide_eq_false (by omega)
          have HGE := Aside0.mk hge
          clear hge
          go_wp2_with (first | ((with_reducible refine gate_builtin (b := .append) (xs := #[.tmp 29, .tmp 32]) rfl ?_); at_builtin; refine append_on w.heap.size rfl (.tmp 29) (.tmp 32) rfl A0 l0 _ acc _ rfl rfl HO.out HB.out ?hb ?hl ?_; (case hb => exact HB.out.size); (case hl => exact HLEN.out); intro v1 w1 h1 h2; have HO1 := Aside0.mk h1; have HB1 := Aside0.mk h2; clear h1 h2))
          have hw : wrap64 ((j : Int) + 1) = ((j + 1 : Nat) : Int) := by
            have := HLT.out; have := HL1.out
            unfold wrap64; omega
          rw [hw]
          refine ⟨⟨j + 1, HLT.out, rfl, ⟨.inr ?_⟩, HB1⟩, ?_⟩
          · have h3 := HO1.out
            have h4 := HF.out.2.2
            have h5 : enc f m = [((m : Int)) % 256] := by
              have := HGE.out
              rw [show (m : Int) % 256 = m by omega]
              cases f with
              | zero => rfl
              | succ f => unfold enc; rw [if_pos this]
            rw [h5] at h4
            rw [← h4]; exact h3
          · simp only [intOf]; have := HLT.out; omega
        · have d1 : decide ((128 : Int) ≤ (m : Int)) = true := decide_eq_true (by omega)
          have HGE := Aside0.mk hge
          clear hge
          go_wp2_with (first | ((with_reducible refine gate_builtin (b := .append) (xs := #[.tmp 21, .tmp 25]) rfl ?_); at_builtin; refine append_on w.heap.size rfl (.tmp 21) (.tmp 25) rfl A0 l0 _ acc _ rfl rfl HO.out HB.out ?hb ?hl ?_; (case hb => exact HB.out.size); (case hl => exact HLEN.out); intro v1 w1 h1 h2; have HO1 := Aside0.mk h1; have HB1 := Aside0.mk h2; clear h1 h2))
          obtain ⟨f, rfl⟩ : ∃ f', f = f' + 1 := by
            cases f with
            | zero => exact absurd HF.out.1 (by have := HGE.out; omega)
            | succ f' => exact ⟨f', rfl⟩
          have h5 : enc (f + 1) m = (128 + (m : Int) % 128) :: enc f (m / 128) := by
            have := HGE.out
            show (if m < 128 then _ else _) = _
            rw [if_neg this]
          have h6 : Go.bits .or .u8 ((m : Int) % 256) 128 = 128 + (m : Int) % 128 := by
            have h := or128 (m % 256) (Nat.mod_lt _ (by decide))
            rw [show ((m % 256 : Nat) : Int) = (m : Int) % 256 by omega] at h
            rw [h]; omega
          have h4 := HF.out
          rw [h5] at h4
          refine ⟨⟨f, m / 128, acc ++ [128 + (m : Int) % 128], by rw [show ((m / 128 : Nat) : Int) = (m : Int) / 128 by omega], ?_, ⟨?_, ?_, ?_⟩, ⟨.inr ?_⟩, HB1⟩, ?_⟩
          · have := HM.out; omega
          · have h7 := h4.1
            rw [Nat.pow_succ] at h7
            exact (Nat.div_lt_iff_lt_mul (by decide)).2 h7
          · have h7 := h4.2.1
            simp only [List.length_append, List.length_cons, List.length_nil] at h7 ⊢; omega
          · have h7 := h4.2.2
            rw [List.append_assoc]; exact h7
          · have h3 := HO1.out
            rw [h6] at h3; exact h3
          · simp only [intOf]; have := HGE.out; omega
    · have HT := Aside0.mk (show l1.take j = l1 from List.take_of_length_le (by omega))
      rw [HT.out] at HO
      go_wp2
      go_ret
      exact ⟨_, rfl, HO.out, HB.out⟩
end Go.Proofs.Ytehjbhnlbjbhfaa.Wire
-- Read
namespace Go.Proofs.Ytehjbhnlbjbhfaa.Wire
open Go Go.RowKit Go.Proofs.YtehjbhnlbjbhfaaW.PrintWords Go.Proofs.YtehjbhnlbjbhfaaW.PrintLast Go.Proofs.YtehjbhnlbjbhfaaW.PrintMore
open Go.Proofs.Ytehjbhnlbjbhfaa.WBase (IsS146 IsS146.new)
set_option linter.unusedVariables false
theorem Read_calls (A0 : Option Addr) (c0 : Nat) (l0 : List Int) (w : World) (hr0 : Kd.C (Kd.int .u8) w A0 l0.length l0) (hc0 : l0.length ≤ c0) (hlen : l0.length < 140737488355328) :
    Calls Try.prog 79 #[.slice A0 l0.length c0] w fun e w' => ∃ w1 g, e = .returned (.pointer (some ⟨g, 0, none⟩)) ∧ IsS146 w1 w' g l0 0 0 true ∧ Below w.heap.size w w1 ∧ Below w1.heap.size w1 w' := by
  have HR0 := Aside0.mk hr0
  have HC0 := Aside0.mk hc0
  have LM := Aside0.mk hlen
  clear hr0 hc0 hlen
  have HB := Aside0.mk (Below.refl w.heap.size w)
  obtain ⟨y1, Ny1⟩ : ∃ y_ : List Int, Aside0 (y_ = ([] : List Int)) := ⟨_, ⟨rfl⟩⟩
  have LM2 := Aside0.mk (show y1.length + l0.length < 140737488355328 by have := LM.out; rw [Ny1.out]; simpa using this)
  have Ny2 := Aside0.mk (show l0 = y1 ++ l0 by rw [Ny1.out]; rfl)
  go_enter Try.func79, Try.ntmps79
  go_wp2_with (first | ((with_reducible refine gate_dst (N := 3) rfl ?_); refine Kd.R_lit (Kd.int .u8) _ 5 ?hg (N := 3) ?hd (xs := ([] : List Int)) (inner := []) (ok := fun _ => True) (okp := fun _ => True) ?hr ?hp (fun _ hk => hk) trivial (Below.refl _ _) (Nat.le_refl _) (by simp) ?_; (case hd => rfl); (case hg => rfl); (case hr => first | (go_simp; done) | (go_simp; rfl)); (case hp => exact (Reps.none _ _)); intro va w4 ho5 hb hg_ hnew_; clear hg_ hnew_; (first | rw [← Ny1.out] at ho5 | (simp only [Int.reduceToNat] at ho5; rw [← Ny1.out] at ho5)); have n0_ := Aside0.mk (Kd.R_lower ho5 (below_size (HB.out))); have n1_ := Aside0.mk (below_step (HB.out) hb); clear HB; have HOa := n0_; have HB := n1_; clear n0_ n1_; clear hb ho5) | ((with_reducible refine gate_builtin (b := .append) (xs := #[.tmp 3, .tmp 4]) rfl ?_); at_builtin; refine Kd.R_append_rows (Kd.int .u8) (w0 := w) w.heap.size rfl (.tmp 3) (.tmp 4) 32 5 (.int .u8 0) 1 rfl Try.underlying32 info5 rfl (by decide) (by omega) va y1 l0 _ _ _ (fun _ => True) (fun _ => False) rfl rfl ?aO ?aR (fun _ _ h => h) (fun _ h => h.elim) ?aF ?aB ?aS ?aL ?_; (case aR => exact (Kd.C_below HR0.out HB.out)); (case aB => exact HB.out); (case aF => exact (fun _ _ => trivial)); (case aO => exact HOa.out); (case aS => exact (below_size (HB.out))); (case aL => have := LM2.out; omega); intro vb w6 ho hb hg hat; rw [← Ny2.out] at ho; have n0_ := Aside0.mk (hb); have n1_ := Aside0.mk (ho); clear HB; clear HOa; have HB := n0_; have HOa := n1_; clear n0_ n1_; clear ho hb hg hat; obtain ⟨Ao7, co7, eo7⟩ := Kd.R_slice HOa.out; subst eo7))
  go_ret
  exact ⟨w6, _, rfl, IsS146.new w6 w6 _ _ l0 0 0 true (Below.refl _ _) ⟨(Kd.R_reads' HOa.out).2.2, (Kd.R_reads' HOa.out).2.1⟩, HB.out, below_alloc (Below.refl _ _) _⟩
end Go.Proofs.Ytehjbhnlbjbhfaa.Wire
-- WRef
namespace Go.Proofs.Ytehjbhnlbjbhfaa.WBase
open Go.RowKit Go.Proofs.YtehjbhnlbjbhfaaW.PrintWords Go.Proofs.YtehjbhnlbjbhfaaW.PrintLast Go.Proofs.YtehjbhnlbjbhfaaW.PrintMore
set_option linter.unusedVariables false
set_option linter.unusedSimpArgs false
end Go.Proofs.Ytehjbhnlbjbhfaa.WBase
-- PlainN
namespace Go.Proofs.Ytehjbhnlbjbhfaa.Wire
open Go Go.RowKit Go.Proofs.YtehjbhnlbjbhfaaW.PrintWords Go.Proofs.YtehjbhnlbjbhfaaW.PrintLast Go.Proofs.YtehjbhnlbjbhfaaW.PrintMore
open Go.Proofs.Ytehjbhnlbjbhfaa.WBase
set_option linter.unusedVariables false
def Bs (l : List Int) : Prop := ∀ x ∈ l, 0 ≤ x ∧ x < 256
def numGo (i n : Nat) : List Int → Nat × Nat × Int
  | [] => (0, 0, 2)
  | x :: r => if i = 10 ∨ (i = 9 ∧ 1 < x.toNat % 128) then (0, 0, 5) else if x = 0 ∧ 0 < i then (0, 0, 10) else if x < 128 then (n + x.toNat % 128 * 128 ^ i, i + 1, 0) else numGo (i + 1) (n + x.toNat % 128 * 128 ^ i) r
def num (l : List Int) : Nat × Nat × Int := numGo 0 0 l
theorem and127 : ∀ a : Nat, a < 256 → Go.bits .and .u8 (a : Int) 127 = ((a % 128 : Nat) : Int) := by decide +kernel
theorem wrap_u64' (n : Int) : IntKind.u64.wrap n = n % 18446744073709551616 := by simp [IntKind.wrap, IntKind.bits, IntKind.signed]
theorem wrap_nat {m : Nat} (h : m < 18446744073709551616) : IntKind.u64.wrap (m : Int) = (m : Int) := by rw [wrap_u64']; omega
theorem or_shift (n low i : Nat) (hn : n < 128 ^ i) (hi : i ≤ 9) (hl : low < 128) (h9 : i = 9 → low ≤ 1) :
    Go.bits .or .u64 (n : Int) (shl .u64 (low : Int) ((7 * i : Nat) : Int)) = ((n + low * 128 ^ i : Nat) : Int) := by
  have e : (128 : Nat) ^ i = 2 ^ (7 * i) := by rw [Nat.pow_mul]
  have hlt : low * 128 ^ i < 18446744073709551616 := by
    rcases Nat.lt_or_ge i 9 with h | h
    · have : (128 : Nat) ^ i ≤ 128 ^ 8 := Nat.pow_le_pow_right (by decide) (by omega)
      calc low * 128 ^ i ≤ 127 * 128 ^ 8 := Nat.mul_le_mul (by omega) this
        _ < 18446744073709551616 := by decide
    · have : i = 9 := by omega
      subst this
      have := h9 rfl
      calc low * 128 ^ 9 ≤ 1 * 128 ^ 9 := Nat.mul_le_mul this (Nat.le_refl _)
        _ < 18446744073709551616 := by decide
  have hnl : n < 18446744073709551616 := by
    have : (128 : Nat) ^ i ≤ 128 ^ 9 := Nat.pow_le_pow_right (by decide) hi
    have : (128 : Nat) ^ 9 < 18446744073709551616 := by decide
    omega
  have hs : shl .u64 (low : Int) ((7 * i : Nat) : Int) = ((low * 128 ^ i : Nat) : Int) := by
    unfold shl
    rw [show min (((7 * i : Nat) : Int)).toNat IntKind.u64.bits = 7 * i by rw [Int.toNat_natCast]; exact Nat.min_eq_left (show 7 * i ≤ 64 by omega)]
    rw [show (2 : Int) ^ (7 * i) = ((128 ^ i : Nat) : Int) by rw [e, Int.natCast_pow]; rfl, ← Int.natCast_mul, wrap_nat hlt]
  rw [hs, bits_or_u64_nat n _ hnl hlt]
  congr 1
  rw [e] at hn ⊢
  have h := Nat.shiftLeft_add_eq_or_of_lt hn low
  rw [Nat.shiftLeft_eq] at h
  rw [Nat.or_comm, ← h, Nat.add_comm]
theorem rd_drop {s : List Int} {j : Nat} {x : Int} {r : List Int} (h : s.drop j = x :: r) : rd s (j : Int) = x ∧ j < s.length ∧ x ∈ s ∧ s.drop (j + 1) = r := by
  have hj : j < s.length := by
    rcases Nat.lt_or_ge j s.length with h1 | h1
    · exact h1
    · rw [List.drop_eq_nil_of_le h1] at h; cases h
  rw [List.drop_eq_getElem_cons hj] at h
  injection h with h1 h2
  refine ⟨?_, hj, h1 ▸ List.getElem_mem hj, h2⟩
  unfold rd
  rw [Int.toNat_natCast, List.getD_eq_getElem?_getD, List.getElem?_eq_getElem hj]; exact h1
def res (was : Nat) (q : Nat × Nat × Int) : Option (Int × Int × Int × Bool) := some (if q.2.2 = 0 then ((q.1 : Int), ((was + q.2.1 : Nat) : Int), 0, true) else (0, (was : Int), q.2.2, true))
theorem num_long {i n : Nat} {x : Int} {r : List Int} (c : i = 10 ∨ (i = 9 ∧ 1 < x.toNat % 128)) : numGo i n (x :: r) = (0, 0, 5) := by unfold numGo; rw [if_pos c]
theorem num_form {i n : Nat} {x : Int} {r : List Int} (c : ¬ (i = 10 ∨ (i = 9 ∧ 1 < x.toNat % 128))) (d : x = 0 ∧ 0 < i) : numGo i n (x :: r) = (0, 0, 10) := by unfold numGo; rw [if_neg c, if_pos d]
theorem num_last {i n : Nat} {x : Int} {r : List Int} (c : ¬ (i = 10 ∨ (i = 9 ∧ 1 < x.toNat % 128))) (d : ¬ (x = 0 ∧ 0 < i)) (h : x < 128) : numGo i n (x :: r) = (n + x.toNat % 128 * 128 ^ i, i + 1, 0) := by unfold numGo; rw [if_neg c, if_neg d, if_pos h]
theorem num_more {i n : Nat} {x : Int} {r : List Int} (c : ¬ (i = 10 ∨ (i = 9 ∧ 1 < x.toNat % 128))) (d : ¬ (x = 0 ∧ 0 < i)) (h : ¬ x < 128) : numGo i n (x :: r) = numGo (i + 1) (n + x.toNat % 128 * 128 ^ i) r := by rw [numGo, if_neg c, if_neg d, if_neg h]
theorem w_l0_end {k : Nat} {n was sh at_ : Int} {s : List Int} (h : at_ = (s.length : Int)) : wire_Reader_Number.l0 (k + 1) n was sh s at_ 0 true = some (0, was, 2, true) := by
  simp only [wire_Reader_Number.l0]; rw [if_pos h]; rfl
theorem w_l0 {k : Nat} {n was sh at_ : Int} {s : List Int} (h0 : 0 ≤ at_) (h1 : at_ < (s.length : Int)) : wire_Reader_Number.l0 (k + 1) n was sh s at_ 0 true = wire_Reader_Number.j1 k n was sh (rd s at_) (IntKind.u64.wrap (Go.bits .and .u8 (rd s at_) 127)) (if sh = 63 then (if (IntKind.u64.wrap (Go.bits .and .u8 (rd s at_) 127)) > 1 then true else decide (sh > 63)) else decide (sh > 63)) s (wrap64 (at_ + 1)) 0 true := by
  simp only [wire_Reader_Number.l0]; rw [if_neg (by omega), if_pos h0, if_pos h1]
  split
  · split <;> rfl
  · rfl
theorem w_j1_t {k : Nat} {n was sh x low at_ : Int} {s : List Int} : wire_Reader_Number.j1 (k + 1) n was sh x low true s at_ 0 true = some (0, was, 5, true) := by
  simp only [wire_Reader_Number.j1]; rw [if_pos trivial]; rfl
theorem w_j1_f {k : Nat} {n was sh x low at_ : Int} {s : List Int} : wire_Reader_Number.j1 (k + 1) n was sh x low false s at_ 0 true = wire_Reader_Number.j2 k n was sh x low (if x = 0 then decide (sh > 0) else false) s at_ 0 true := by
  simp only [wire_Reader_Number.j1]; rw [if_neg (by decide)]
  split <;> rfl
theorem w_j2_t {k : Nat} {n was sh x low at_ : Int} {s : List Int} : wire_Reader_Number.j2 (k + 1) n was sh x low true s at_ 0 true = some (0, was, 10, true) := by
  simp only [wire_Reader_Number.j2]; rw [if_pos trivial]; rfl
theorem w_j2_f {k : Nat} {n was sh x low at_ : Int} {s : List Int} (h : 0 ≤ sh) : wire_Reader_Number.j2 (k + 1) n was sh x low false s at_ 0 true = if x < 128 then some (Go.bits .or .u64 n (shl .u64 low sh), at_, 0, true) else wire_Reader_Number.l0 k (Go.bits .or .u64 n (shl .u64 low sh)) was (wrap64 (sh + 7)) s at_ 0 true := by
  simp only [wire_Reader_Number.j2]; rw [if_neg (by decide), if_pos h]
theorem step_lt (n i b : Nat) (hn : n < 128 ^ i) : n + b % 128 * 128 ^ i < 128 ^ (i + 1) := by
  rw [Nat.pow_succ]
  have h1 : b % 128 < 128 := Nat.mod_lt _ (by decide)
  calc n + b % 128 * 128 ^ i < 128 ^ i + b % 128 * 128 ^ i := by omega
    _ = (1 + b % 128) * 128 ^ i := by rw [Nat.add_mul, Nat.one_mul]
    _ ≤ 128 * 128 ^ i := Nat.mul_le_mul_right _ (by omega)
    _ = 128 ^ i * 128 := Nat.mul_comm _ _
theorem number_l0 (s : List Int) (hs : Bs s) (hlen : s.length < 140737488355328) (was : Nat) : ∀ (r : List Int) (i n k : Nat), s.drop (was + i) = r → i ≤ 10 → n < 128 ^ i → was + i ≤ s.length → 3 * (12 - i) ≤ k →
    wire_Reader_Number.l0 k (n : Int) (was : Int) ((7 * i : Nat) : Int) s ((was + i : Nat) : Int) 0 true = res was (numGo i n r) := by
  intro r
  induction r with
  | nil =>
    intro i n k hd hi hn hle hk
    obtain ⟨k, rfl⟩ : ∃ k', k = k' + 1 := ⟨k - 1, by omega⟩
    rw [w_l0_end (by have := List.drop_eq_nil_iff.1 hd; omega)]
    rfl
  | cons x r ih =>
    intro i n k hd hi hn hle hk
    obtain ⟨k, rfl⟩ : ∃ k', k = k' + 3 := ⟨k - 3, by omega⟩
    obtain ⟨hx, hlt, hmem, hd2⟩ := rd_drop hd
    obtain ⟨hx0, hx1⟩ := hs x hmem
    obtain ⟨b, rfl⟩ := Int.eq_ofNat_of_zero_le hx0
    have h0 : (0 : Int) ≤ ((was + i : Nat) : Int) := by omega
    have h1 : ((was + i : Nat) : Int) < (s.length : Int) := by omega
    have hx := Aside0.mk hx
    have hlow := Aside0.mk (show IntKind.u64.wrap (Go.bits .and .u8 (b : Int) 127) = ((b % 128 : Nat) : Int) by
      rw [and127 b (by omega), wrap_u64']; omega)
    have hw := Aside0.mk (show wrap64 (((was + i : Nat) : Int) + 1) = ((was + (i + 1) : Nat) : Int) by unfold wrap64; omega)
    rw [w_l0 h0 h1, hx.out, hlow.out, hw.out]
    clear hlow hw hx
    have hb : (b : Int).toNat = b := Int.toNat_natCast b
    by_cases c : i = 10 ∨ (i = 9 ∧ 1 < (b : Int).toNat % 128)
    · rw [num_long c]
      rw [hb] at c
      have ht : (if ((7 * i : Nat) : Int) = 63 then (if ((b % 128 : Nat) : Int) > 1 then true else decide (((7 * i : Nat) : Int) > 63)) else decide (((7 * i : Nat) : Int) > 63)) = true := by
        split
        · rw [if_pos (by omega)]
        · exact decide_eq_true (by omega)
      rw [ht, w_j1_t]; rfl
    · have c' := c
      rw [hb] at c
      have ht : (if ((7 * i : Nat) : Int) = 63 then (if ((b % 128 : Nat) : Int) > 1 then true else decide (((7 * i : Nat) : Int) > 63)) else decide (((7 * i : Nat) : Int) > 63)) = false := by
        split
        · rw [if_neg (by omega)]; exact decide_eq_false (by omega)
        · exact decide_eq_false (by omega)
      rw [ht, w_j1_f]
      by_cases d : (b : Int) = 0 ∧ 0 < i
      · rw [num_form c' d]
        have ht2 : (if (b : Int) = 0 then decide (((7 * i : Nat) : Int) > 0) else false) = true := by
          rw [if_pos d.1]; exact decide_eq_true (by omega)
        rw [ht2, w_j2_t]; rfl
      · have ht2 : (if (b : Int) = 0 then decide (((7 * i : Nat) : Int) > 0) else false) = false := by
          split
          · exact decide_eq_false (by omega)
          · rfl
        rw [ht2, w_j2_f (by omega), or_shift n (b % 128) i hn (by omega) (Nat.mod_lt _ (by decide)) (by intro h9; omega)]
        by_cases c8 : (b : Int) < 128
        · rw [if_pos c8, num_last c' d c8, hb]; rfl
        · rw [if_neg c8, num_more c' d c8, hb, show wrap64 (((7 * i : Nat) : Int) + 7) = ((7 * (i + 1) : Nat) : Int) by unfold wrap64; omega]
          exact ih (i + 1) _ k hd2 (by omega) (step_lt n i b hn) (by omega) (by omega)
theorem Number_eq (s : List Int) (hs : Bs s) (hlen : s.length < 140737488355328) (at_ : Nat) (hat : at_ ≤ s.length) (k : Nat) (hk : 36 ≤ k) :
    wire_Reader_Number.f k s (at_ : Int) 0 true = res at_ (num (s.drop at_)) := by
  unfold wire_Reader_Number.f wire_Reader_Err.f
  simp only [if_true, Option.bind_some]
  exact number_l0 s hs hlen at_ (s.drop at_) 0 0 k rfl (by decide) (by decide) hat hk
end Go.Proofs.Ytehjbhnlbjbhfaa.Wire
-- ReadBytes
namespace Go.Proofs.Ytehjbhnlbjbhfaa.Wire
open Go Go.RowKit Go.Proofs.YtehjbhnlbjbhfaaW.PrintWords Go.Proofs.YtehjbhnlbjbhfaaW.PrintLast Go.Proofs.YtehjbhnlbjbhfaaW.PrintMore
open Go.Proofs.Ytehjbhnlbjbhfaa.WBase
set_option linter.unusedVariables false
set_option linter.unusedSimpArgs false
theorem numGo_ok : ∀ (r : List Int) (i n : Nat), (numGo i n r).2.2 = 0 → (numGo i n r).2.1 ≤ i + r.length ∧ i < (numGo i n r).2.1 := by
  intro r
  induction r with
  | nil => intro i n h; simp [numGo] at h
  | cons x r ih =>
    intro i n
    unfold numGo
    split
    · intro h; simp at h
    · split
      · intro h; simp at h
      · split
        · intro h; simp
        · intro h
          obtain ⟨h1, h2⟩ := ih _ _ h
          simp only [List.length_cons]; omega
theorem numGo_lt : ∀ (r : List Int) (i n : Nat), i ≤ 10 → n < 128 ^ i → (numGo i n r).1 < 18446744073709551616 := by
  intro r
  induction r with
  | nil => intro i n hi hn; simp [numGo]
  | cons x r ih =>
    intro i n hi hn
    unfold numGo
    split
    · simp
    · rename_i c
      have hstep : n + x.toNat % 128 * 128 ^ i < 128 ^ (i + 1) := by
        rw [Nat.pow_succ]
        have h1 : x.toNat % 128 < 128 := Nat.mod_lt _ (by decide)
        calc n + x.toNat % 128 * 128 ^ i < 128 ^ i + x.toNat % 128 * 128 ^ i := by omega
          _ = (1 + x.toNat % 128) * 128 ^ i := by rw [Nat.add_mul, Nat.one_mul]
          _ ≤ 128 * 128 ^ i := Nat.mul_le_mul_right _ (by omega)
          _ = 128 ^ i * 128 := Nat.mul_comm _ _
      split
      · simp
      · split
        · rcases Nat.lt_or_ge i 9 with h | h
          · have : (128 : Nat) ^ (i + 1) ≤ 128 ^ 9 := Nat.pow_le_pow_right (by decide) (by omega)
            have : (128 : Nat) ^ 9 < 18446744073709551616 := by decide
            simp only; omega
          · have : i = 9 := by omega
            subst this
            have h1 : x.toNat % 128 ≤ 1 := by omega
            have : x.toNat % 128 * 128 ^ 9 ≤ 1 * 128 ^ 9 := Nat.mul_le_mul_right _ h1
            have : (128 : Nat) ^ 9 = 9223372036854775808 := by decide
            simp only; omega
        · exact ih _ _ (by omega) hstep
def bytesP (s : List Int) (at_ : Nat) (most : Int) : List Int × Nat × Int :=
  if (num (s.drop at_)).2.2 ≠ 0 then ([], at_, (num (s.drop at_)).2.2)
  else if (if most < 0 then 0 else most) < ((num (s.drop at_)).1 : Int) then ([], at_, 4)
  else if s.length < at_ + (num (s.drop at_)).2.1 + (num (s.drop at_)).1 then ([], at_, 2)
  else ((s.drop (at_ + (num (s.drop at_)).2.1)).take (num (s.drop at_)).1, at_ + (num (s.drop at_)).2.1 + (num (s.drop at_)).1, 0)
theorem wrap64_nat {m : Nat} (h : m < 9223372036854775808) : wrap64 (m : Int) = (m : Int) := by unfold wrap64; omega
theorem wrap64_sum {p n z : Nat} (h : p + n = z) (hz : z < 9223372036854775808) : wrap64 ((p : Int) + (n : Int)) = (z : Int) := by unfold wrap64; omega
theorem wrap64_dif {p n z : Nat} (h : p + n = z) (hz : z < 9223372036854775808) : wrap64 ((z : Int) - (n : Int)) = (p : Int) := by unfold wrap64; omega
theorem with_world {P : World → Prop} (S : World → Prop) {W : World} (h : S W) (k : ∀ w', S w' → P w') : P W := k W h
theorem cut_bytes {w0 : World} (A : Option Addr) (c : Nat) (s : List Int) (p n z : Nat) (hC : Kd.C (Kd.int .u8) w0 A s.length s) (hc : s.length ≤ c) (hz : p + n = z) (hle : z ≤ s.length) :
    ∃ A1 c1, (∀ W : World, (Instr.slice 32 (.slice A s.length c) (some (.int .i64 (p : Int))) (some (.int .i64 (z : Int))) none).run Try.prog W = .ok (.slice A1 ((s.drop p).take n).length c1) W) ∧ Kd.C (Kd.int .u8) w0 A1 ((s.drop p).take n).length ((s.drop p).take n) ∧ ((s.drop p).take n).length ≤ c1 := by
  obtain ⟨i0, hi, hz0, hz1, hz2⟩ := info_parts info5
  have hl : ((s.drop p).take n).length = n := by rw [List.length_take, List.length_drop]; omega
  refine ⟨if c = p then A else A.map (·.add (p * 1)), c - p, ?_, ?_, by omega⟩
  · intro W
    rw [cut_mid (P := Try.prog) 32 5 .i64 .i64 Try.underlying32 hi 1 hz1 A s.length c p z (by omega) (by omega) (by omega) hc W, hl, Int.toNat_natCast, Int.toNat_natCast, show z - p = n by omega]
  · have h := Kd.C_mid (lo := p) (hi := z) (c := c) hC (by omega) hle hc
    rw [List.drop_take, show z - p = n by omega] at h
    exact h
set_option maxHeartbeats 8000000 in
set_option maxRecDepth 100000 in
theorem Bytes_calls (g : Nat) (s : List Int) (at_ : Nat) (most : Int) (hmost : -9223372036854775808 ≤ most ∧ most ≤ 9223372036854775807) (w0 w : World) (hI : IsS146 w0 w g s (at_ : Int) 0 true) (hB : Below w0.heap.size w0 w) (hs : Bs s) (hlen : s.length < 140737488355328) (hat : at_ ≤ s.length) :
    Calls Try.prog 81 #[.pointer (some ⟨g, 0, none⟩), .int .i64 most] w fun e w' => ∃ v, e = .returned v ∧ Kd.R (Kd.int .u8) 5 w' w.heap.size (fun k => k ≠ g) v (bytesP s at_ most).1 ∧ IsS146 w0 w' g s ((bytesP s at_ most).2.1 : Int) (bytesP s at_ most).2.2 true ∧ Below w0.heap.size w0 w' ∧ KeepBut w w' g none := by
  have HI := Aside0.mk hI
  have HK := Aside0.mk (KeepBut.refl w g none)
  have HB := Aside0.mk hB
  have HSB := Aside0.mk hs
  have hN := Number_eq s hs hlen at_ hat 36 (by decide)
  have hok := numGo_ok (s.drop at_) 0 0
  have hlt := numGo_lt (s.drop at_) 0 0 (by decide) (by decide)
  rw [show numGo 0 0 (s.drop at_) = num (s.drop at_) from rfl] at hok hlt
  have HE := Aside0.mk (show wire_Reader_Err.f s (at_ : Int) 0 true = some (0, (at_ : Int), 0, true) from rfl)
  unfold bytesP
  generalize num (s.drop at_) = q at *
  obtain ⟨n, c, e⟩ := q
  simp only at hN hok hlt ⊢
  have HLT := Aside0.mk hlt
  clear hI hB hs hlt
  by_cases c0 : e = 0
  · subst c0
    obtain ⟨p, hp⟩ : ∃ p : Nat, at_ + c = p := ⟨_, rfl⟩
    replace hN : wire_Reader_Number.f 36 s (at_ : Int) 0 true = some ((n : Int), (p : Int), 0, true) := by rw [← hp]; exact hN
    rw [hp]
    have HN := Aside0.mk hN
    obtain ⟨hcl, hcp⟩ := hok rfl
    rw [List.length_drop] at hcl
    clear hok hN
    simp only [ne_eq, not_true_eq_false, if_false]
    obtain ⟨M, hMX⟩ : ∃ M : Int, (if most < 0 then (0 : Int) else most) = M := ⟨_, rfl⟩
    have hM0 : 0 ≤ M ∧ M < 18446744073709551616 := by rw [← hMX]; split <;> omega
    have hw1 : IntKind.u64.wrap M = M := by rw [wrap_u64']; omega
    rw [hMX]
    clear hmost
    by_cases c1 : M < (n : Int)
    · rw [if_pos c1]
      have c1b : decide (M < (n : Int)) = true := decide_eq_true c1
      have HST := Aside0.mk (show wire_Reader_stop.f s (p : Int) 0 true (at_ : Int) 4 = some ((at_ : Int), 4, true) from rfl)
      have HC1 := Aside0.mk c1; (try have HC2 := Aside0.mk c2); have HM0 := Aside0.mk hM0; have HLN := Aside0.mk hlen; have HAT := Aside0.mk hat; have HCL := Aside0.mk hcl; have HP := Aside0.mk hp; clear c1 hM0 hlen hat hcl hcp hp; (try clear c2)
      go_enter Try.func81, Try.ntmps81
      obtain ⟨AS, cS, HG, hg, HS⟩ := HI.out; have hc_0 := cellS62_0 HG; have hc_1 := cellS62_1 HG; have hc_2 := cellS62_2 HG; have hc_3 := cellS62_3 HG; have hf_1 := blk_frozen HG 1; have hf_2 := blk_frozen HG 2; have hf_3 := blk_frozen HG 3; clear hg HG
      go_wp2_with (first | (go_at_call 95; (with_reducible refine (wire_Reader_Err.calls g s _ _ _ _ _ _ _ w0 _ (by repeat (first | (with_reducible first | exact HI.out | apply IsS146.alloc | apply IsS146.drewN | apply IsS146.drew | apply IsS146.set_1 | apply IsS146.set_2 | apply IsS146.set_3) | exact HI.out)) (by repeat (first | (with_reducible first | exact HB.out | apply below_alloc | apply pw_below_drewN | apply below_drew1 | refine below_set ?_ (IsS146.ge HI.out)) | exact HB.out)) HE.out).mono ?_); rintro e w4 ⟨rfl, hi, hb, hk⟩; have n0_ := Aside0.mk (KeepBut.trans (by repeat (first | (with_reducible first | exact HK.out | apply KeepBut.set_ | apply keep_drewN | apply keep_drew | apply keep_alloc) | exact HK.out)) hk (.inl rfl)); have n1_ := Aside0.mk hb; have n2_ := Aside0.mk hi; clear HK; clear HB; clear HI; have HK := n0_; have HB := n1_; have HI := n2_; clear n0_ n1_ n2_; (try clear hb); (try clear hk); (try clear hi); (try clear hc_0); (try clear hc_1); (try clear hc_2); (try clear hc_3); (try clear hf_1); (try clear hf_2); (try clear hf_3); (try clear HS); (try clear cS); (try clear AS); obtain ⟨AS, cS, HG, hg, HS⟩ := HI.out; have hc_0 := cellS62_0 HG; have hc_1 := cellS62_1 HG; have hc_2 := cellS62_2 HG; have hc_3 := cellS62_3 HG; have hf_1 := blk_frozen HG 1; have hf_2 := blk_frozen HG 2; have hf_3 := blk_frozen HG 3; clear hg HG) | (go_at_call 94; (with_reducible refine (wire_Reader_Number.calls 36 g s _ _ _ _ _ _ _ w0 _ (by repeat (first | (with_reducible first | exact HI.out | apply IsS146.alloc | apply IsS146.drewN | apply IsS146.drew | apply IsS146.set_1 | apply IsS146.set_2 | apply IsS146.set_3) | exact HI.out)) (by repeat (first | (with_reducible first | exact HB.out | apply below_alloc | apply pw_below_drewN | apply below_drew1 | refine below_set ?_ (IsS146.ge HI.out)) | exact HB.out)) HN.out).mono ?_); rintro e w4 ⟨rfl, hi, hb, hk⟩; have n0_ := Aside0.mk (KeepBut.trans (by repeat (first | (with_reducible first | exact HK.out | apply KeepBut.set_ | apply keep_drewN | apply keep_drew | apply keep_alloc) | exact HK.out)) hk (.inl rfl)); have n1_ := Aside0.mk hb; have n2_ := Aside0.mk hi; clear HK; clear HB; clear HI; have HK := n0_; have HB := n1_; have HI := n2_; clear n0_ n1_ n2_; (try clear hb); (try clear hk); (try clear hi); (try clear hc_0); (try clear hc_1); (try clear hc_2); (try clear hc_3); (try clear hf_1); (try clear hf_2); (try clear hf_3); (try clear HS); (try clear cS); (try clear AS); obtain ⟨AS, cS, HG, hg, HS⟩ := HI.out; have hc_0 := cellS62_0 HG; have hc_1 := cellS62_1 HG; have hc_2 := cellS62_2 HG; have hc_3 := cellS62_3 HG; have hf_1 := blk_frozen HG 1; have hf_2 := blk_frozen HG 2; have hf_3 := blk_frozen HG 3; clear hg HG) | (go_at_call 96; (with_reducible refine (wire_Reader_stop.calls g s _ _ _ _ _ _ _ _ w0 _ (by repeat (first | (with_reducible first | exact HI.out | apply IsS146.alloc | apply IsS146.drewN | apply IsS146.drew | apply IsS146.set_1 | apply IsS146.set_2 | apply IsS146.set_3) | exact HI.out)) (by repeat (first | (with_reducible first | exact HB.out | apply below_alloc | apply pw_below_drewN | apply below_drew1 | refine below_set ?_ (IsS146.ge HI.out)) | exact HB.out)) HST.out).mono ?_); rintro e w4 ⟨rfl, hi, hb, hk⟩; have n0_ := Aside0.mk (KeepBut.trans (by repeat (first | (with_reducible first | exact HK.out | apply KeepBut.set_ | apply keep_drewN | apply keep_drew | apply keep_alloc) | exact HK.out)) hk (.inl rfl)); have n1_ := Aside0.mk hb; have n2_ := Aside0.mk hi; clear HK; clear HB; clear HI; have HK := n0_; have HB := n1_; have HI := n2_; clear n0_ n1_ n2_; (try clear hb); (try clear hk); (try clear hi); (try clear hc_0); (try clear hc_1); (try clear hc_2); (try clear hc_3); (try clear hf_1); (try clear hf_2); (try clear hf_3); (try clear HS); (try clear cS); (try clear AS); obtain ⟨AS, cS, HG, hg, HS⟩ := HI.out; have hc_0 := cellS62_0 HG; have hc_1 := cellS62_1 HG; have hc_2 := cellS62_2 HG; have hc_3 := cellS62_3 HG; have hf_1 := blk_frozen HG 1; have hf_2 := blk_frozen HG 2; have hf_3 := blk_frozen HG 3; clear hg HG)); repeat (go_quiet (first | (go_at_call 95; (with_reducible refine (wire_Reader_Err.calls g s _ _ _ _ _ _ _ w0 _ (by repeat (first | (with_reducible first | exact HI.out | apply IsS146.alloc | apply IsS146.drewN | apply IsS146.drew | apply IsS146.set_1 | apply IsS146.set_2 | apply IsS146.set_3) | exact HI.out)) (by repeat (first | (with_reducible first | exact HB.out | apply below_alloc | apply pw_below_drewN | apply below_drew1 | refine below_set ?_ (IsS146.ge HI.out)) | exact HB.out)) HE.out).mono ?_); rintro e w4 ⟨rfl, hi, hb, hk⟩; have n0_ := Aside0.mk (KeepBut.trans (by repeat (first | (with_reducible first | exact HK.out | apply KeepBut.set_ | apply keep_drewN | apply keep_drew | apply keep_alloc) | exact HK.out)) hk (.inl rfl)); have n1_ := Aside0.mk hb; have n2_ := Aside0.mk hi; clear HK; clear HB; clear HI; have HK := n0_; have HB := n1_; have HI := n2_; clear n0_ n1_ n2_; (try clear hb); (try clear hk); (try clear hi); (try clear hc_0); (try clear hc_1); (try clear hc_2); (try clear hc_3); (try clear hf_1); (try clear hf_2); (try clear hf_3); (try clear HS); (try clear cS); (try clear AS); obtain ⟨AS, cS, HG, hg, HS⟩ := HI.out; have hc_0 := cellS62_0 HG; have hc_1 := cellS62_1 HG; have hc_2 := cellS62_2 HG; have hc_3 := cellS62_3 HG; have hf_1 := blk_frozen HG 1; have hf_2 := blk_frozen HG 2; have hf_3 := blk_frozen HG 3; clear hg HG) | (go_at_call 94; (with_reducible refine (wire_Reader_Number.calls 36 g s _ _ _ _ _ _ _ w0 _ (by repeat (first | (with_reducible first | exact HI.out | apply IsS146.alloc | apply IsS146.drewN | apply IsS146.drew | apply IsS146.set_1 | apply IsS146.set_2 | apply IsS146.set_3) | exact HI.out)) (by repeat (first | (with_reducible first | exact HB.out | apply below_alloc | apply pw_below_drewN | apply below_drew1 | refine below_set ?_ (IsS146.ge HI.out)) | exact HB.out)) HN.out).mono ?_); rintro e w4 ⟨rfl, hi, hb, hk⟩; have n0_ := Aside0.mk (KeepBut.trans (by repeat (first | (with_reducible first | exact HK.out | apply KeepBut.set_ | apply keep_drewN | apply keep_drew | apply keep_alloc) | exact HK.out)) hk (.inl rfl)); have n1_ := Aside0.mk hb; have n2_ := Aside0.mk hi; clear HK; clear HB; clear HI; have HK := n0_; have HB := n1_; have HI := n2_; clear n0_ n1_ n2_; (try clear hb); (try clear hk); (try clear hi); (try clear hc_0); (try clear hc_1); (try clear hc_2); (try clear hc_3); (try clear hf_1); (try clear hf_2); (try clear hf_3); (try clear HS); (try clear cS); (try clear AS); obtain ⟨AS, cS, HG, hg, HS⟩ := HI.out; have hc_0 := cellS62_0 HG; have hc_1 := cellS62_1 HG; have hc_2 := cellS62_2 HG; have hc_3 := cellS62_3 HG; have hf_1 := blk_frozen HG 1; have hf_2 := blk_frozen HG 2; have hf_3 := blk_frozen HG 3; clear hg HG) | (go_at_call 96; (with_reducible refine (wire_Reader_stop.calls g s _ _ _ _ _ _ _ _ w0 _ (by repeat (first | (with_reducible first | exact HI.out | apply IsS146.alloc | apply IsS146.drewN | apply IsS146.drew | apply IsS146.set_1 | apply IsS146.set_2 | apply IsS146.set_3) | exact HI.out)) (by repeat (first | (with_reducible first | exact HB.out | apply below_alloc | apply pw_below_drewN | apply below_drew1 | refine below_set ?_ (IsS146.ge HI.out)) | exact HB.out)) HST.out).mono ?_); rintro e w4 ⟨rfl, hi, hb, hk⟩; have n0_ := Aside0.mk (KeepBut.trans (by repeat (first | (with_reducible first | exact HK.out | apply KeepBut.set_ | apply keep_drewN | apply keep_drew | apply keep_alloc) | exact HK.out)) hk (.inl rfl)); have n1_ := Aside0.mk hb; have n2_ := Aside0.mk hi; clear HK; clear HB; clear HI; have HK := n0_; have HB := n1_; have HI := n2_; clear n0_ n1_ n2_; (try clear hb); (try clear hk); (try clear hi); (try clear hc_0); (try clear hc_1); (try clear hc_2); (try clear hc_3); (try clear hf_1); (try clear hf_2); (try clear hf_3); (try clear HS); (try clear cS); (try clear AS); obtain ⟨AS, cS, HG, hg, HS⟩ := HI.out; have hc_0 := cellS62_0 HG; have hc_1 := cellS62_1 HG; have hc_2 := cellS62_2 HG; have hc_3 := cellS62_3 HG; have hf_1 := blk_frozen HG 1; have hf_2 := blk_frozen HG 2; have hf_3 := blk_frozen HG 3; clear hg HG)); try go_wp2_with (first | (go_at_call 95; (with_reducible refine (wire_Reader_Err.calls g s _ _ _ _ _ _ _ w0 _ (by repeat (first | (with_reducible first | exact HI.out | apply IsS146.alloc | apply IsS146.drewN | apply IsS146.drew | apply IsS146.set_1 | apply IsS146.set_2 | apply IsS146.set_3) | exact HI.out)) (by repeat (first | (with_reducible first | exact HB.out | apply below_alloc | apply pw_below_drewN | apply below_drew1 | refine below_set ?_ (IsS146.ge HI.out)) | exact HB.out)) HE.out).mono ?_); rintro e w4 ⟨rfl, hi, hb, hk⟩; have n0_ := Aside0.mk (KeepBut.trans (by repeat (first | (with_reducible first | exact HK.out | apply KeepBut.set_ | apply keep_drewN | apply keep_drew | apply keep_alloc) | exact HK.out)) hk (.inl rfl)); have n1_ := Aside0.mk hb; have n2_ := Aside0.mk hi; clear HK; clear HB; clear HI; have HK := n0_; have HB := n1_; have HI := n2_; clear n0_ n1_ n2_; (try clear hb); (try clear hk); (try clear hi); (try clear hc_0); (try clear hc_1); (try clear hc_2); (try clear hc_3); (try clear hf_1); (try clear hf_2); (try clear hf_3); (try clear HS); (try clear cS); (try clear AS); obtain ⟨AS, cS, HG, hg, HS⟩ := HI.out; have hc_0 := cellS62_0 HG; have hc_1 := cellS62_1 HG; have hc_2 := cellS62_2 HG; have hc_3 := cellS62_3 HG; have hf_1 := blk_frozen HG 1; have hf_2 := blk_frozen HG 2; have hf_3 := blk_frozen HG 3; clear hg HG) | (go_at_call 94; (with_reducible refine (wire_Reader_Number.calls 36 g s _ _ _ _ _ _ _ w0 _ (by repeat (first | (with_reducible first | exact HI.out | apply IsS146.alloc | apply IsS146.drewN | apply IsS146.drew | apply IsS146.set_1 | apply IsS146.set_2 | apply IsS146.set_3) | exact HI.out)) (by repeat (first | (with_reducible first | exact HB.out | apply below_alloc | apply pw_below_drewN | apply below_drew1 | refine below_set ?_ (IsS146.ge HI.out)) | exact HB.out)) HN.out).mono ?_); rintro e w4 ⟨rfl, hi, hb, hk⟩; have n0_ := Aside0.mk (KeepBut.trans (by repeat (first | (with_reducible first | exact HK.out | apply KeepBut.set_ | apply keep_drewN | apply keep_drew | apply keep_alloc) | exact HK.out)) hk (.inl rfl)); have n1_ := Aside0.mk hb; have n2_ := Aside0.mk hi; clear HK; clear HB; clear HI; have HK := n0_; have HB := n1_; have HI := n2_; clear n0_ n1_ n2_; (try clear hb); (try clear hk); (try clear hi); (try clear hc_0); (try clear hc_1); (try clear hc_2); (try clear hc_3); (try clear hf_1); (try clear hf_2); (try clear hf_3); (try clear HS); (try clear cS); (try clear AS); obtain ⟨AS, cS, HG, hg, HS⟩ := HI.out; have hc_0 := cellS62_0 HG; have hc_1 := cellS62_1 HG; have hc_2 := cellS62_2 HG; have hc_3 := cellS62_3 HG; have hf_1 := blk_frozen HG 1; have hf_2 := blk_frozen HG 2; have hf_3 := blk_frozen HG 3; clear hg HG) | (go_at_call 96; (with_reducible refine (wire_Reader_stop.calls g s _ _ _ _ _ _ _ _ w0 _ (by repeat (first | (with_reducible first | exact HI.out | apply IsS146.alloc | apply IsS146.drewN | apply IsS146.drew | apply IsS146.set_1 | apply IsS146.set_2 | apply IsS146.set_3) | exact HI.out)) (by repeat (first | (with_reducible first | exact HB.out | apply below_alloc | apply pw_below_drewN | apply below_drew1 | refine below_set ?_ (IsS146.ge HI.out)) | exact HB.out)) HST.out).mono ?_); rintro e w4 ⟨rfl, hi, hb, hk⟩; have n0_ := Aside0.mk (KeepBut.trans (by repeat (first | (with_reducible first | exact HK.out | apply KeepBut.set_ | apply keep_drewN | apply keep_drew | apply keep_alloc) | exact HK.out)) hk (.inl rfl)); have n1_ := Aside0.mk hb; have n2_ := Aside0.mk hi; clear HK; clear HB; clear HI; have HK := n0_; have HB := n1_; have HI := n2_; clear n0_ n1_ n2_; (try clear hb); (try clear hk); (try clear hi); (try clear hc_0); (try clear hc_1); (try clear hc_2); (try clear hc_3); (try clear hf_1); (try clear hf_2); (try clear hf_3); (try clear HS); (try clear cS); (try clear AS); obtain ⟨AS, cS, HG, hg, HS⟩ := HI.out; have hc_0 := cellS62_0 HG; have hc_1 := cellS62_1 HG; have hc_2 := cellS62_2 HG; have hc_3 := cellS62_3 HG; have hf_1 := blk_frozen HG 1; have hf_2 := blk_frozen HG 2; have hf_3 := blk_frozen HG 3; clear hg HG)))
      go_ret
      exact ⟨_, rfl, Kd.R_nil _ _ _ _ _, by repeat (first | (with_reducible first | exact HI.out | apply IsS146.alloc | apply IsS146.drewN | apply IsS146.drew | apply IsS146.set_1 | apply IsS146.set_2 | apply IsS146.set_3) | exact HI.out), by repeat (first | (with_reducible first | exact HB.out | apply below_alloc | apply pw_below_drewN | apply below_drew1 | refine below_set ?_ (IsS146.ge HI.out)) | exact HB.out), by repeat (first | (with_reducible first | exact HK.out | apply KeepBut.set_ | apply keep_drewN | apply keep_drew | apply keep_alloc) | exact HK.out)⟩
    · rw [if_neg c1]
      have c1b : decide (M < (n : Int)) = false := decide_eq_false c1
      have hw2 : wrap64 ((s.length : Int) - (p : Int)) = (s.length : Int) - (p : Int) := by unfold wrap64; omega
      have hw3 : IntKind.u64.wrap ((s.length : Int) - (p : Int)) = (s.length : Int) - (p : Int) := by rw [wrap_u64']; omega
      by_cases c2 : s.length < p + n
      · rw [if_pos c2]
        have c2b : decide ((s.length : Int) - (p : Int) < (n : Int)) = true := decide_eq_true (by omega)
        have HST := Aside0.mk (show wire_Reader_stop.f s (p : Int) 0 true (at_ : Int) 2 = some ((at_ : Int), 2, true) from rfl)
        have HC1 := Aside0.mk c1; (try have HC2 := Aside0.mk c2); have HM0 := Aside0.mk hM0; have HLN := Aside0.mk hlen; have HAT := Aside0.mk hat; have HCL := Aside0.mk hcl; have HP := Aside0.mk hp; clear c1 hM0 hlen hat hcl hcp hp; (try clear c2)
        go_enter Try.func81, Try.ntmps81
        obtain ⟨AS, cS, HG, hg, HS⟩ := HI.out; have hc_0 := cellS62_0 HG; have hc_1 := cellS62_1 HG; have hc_2 := cellS62_2 HG; have hc_3 := cellS62_3 HG; have hf_1 := blk_frozen HG 1; have hf_2 := blk_frozen HG 2; have hf_3 := blk_frozen HG 3; clear hg HG
        go_wp2_with (first | (go_at_call 95; (with_reducible refine (wire_Reader_Err.calls g s _ _ _ _ _ _ _ w0 _ (by repeat (first | (with_reducible first | exact HI.out | apply IsS146.alloc | apply IsS146.drewN | apply IsS146.drew | apply IsS146.set_1 | apply IsS146.set_2 | apply IsS146.set_3) | exact HI.out)) (by repeat (first | (with_reducible first | exact HB.out | apply below_alloc | apply pw_below_drewN | apply below_drew1 | refine below_set ?_ (IsS146.ge HI.out)) | exact HB.out)) HE.out).mono ?_); rintro e w4 ⟨rfl, hi, hb, hk⟩; have n0_ := Aside0.mk (KeepBut.trans (by repeat (first | (with_reducible first | exact HK.out | apply KeepBut.set_ | apply keep_drewN | apply keep_drew | apply keep_alloc) | exact HK.out)) hk (.inl rfl)); have n1_ := Aside0.mk hb; have n2_ := Aside0.mk hi; clear HK; clear HB; clear HI; have HK := n0_; have HB := n1_; have HI := n2_; clear n0_ n1_ n2_; (try clear hb); (try clear hk); (try clear hi); (try clear hc_0); (try clear hc_1); (try clear hc_2); (try clear hc_3); (try clear hf_1); (try clear hf_2); (try clear hf_3); (try clear HS); (try clear cS); (try clear AS); obtain ⟨AS, cS, HG, hg, HS⟩ := HI.out; have hc_0 := cellS62_0 HG; have hc_1 := cellS62_1 HG; have hc_2 := cellS62_2 HG; have hc_3 := cellS62_3 HG; have hf_1 := blk_frozen HG 1; have hf_2 := blk_frozen HG 2; have hf_3 := blk_frozen HG 3; clear hg HG) | (go_at_call 94; (with_reducible refine (wire_Reader_Number.calls 36 g s _ _ _ _ _ _ _ w0 _ (by repeat (first | (with_reducible first | exact HI.out | apply IsS146.alloc | apply IsS146.drewN | apply IsS146.drew | apply IsS146.set_1 | apply IsS146.set_2 | apply IsS146.set_3) | exact HI.out)) (by repeat (first | (with_reducible first | exact HB.out | apply below_alloc | apply pw_below_drewN | apply below_drew1 | refine below_set ?_ (IsS146.ge HI.out)) | exact HB.out)) HN.out).mono ?_); rintro e w4 ⟨rfl, hi, hb, hk⟩; have n0_ := Aside0.mk (KeepBut.trans (by repeat (first | (with_reducible first | exact HK.out | apply KeepBut.set_ | apply keep_drewN | apply keep_drew | apply keep_alloc) | exact HK.out)) hk (.inl rfl)); have n1_ := Aside0.mk hb; have n2_ := Aside0.mk hi; clear HK; clear HB; clear HI; have HK := n0_; have HB := n1_; have HI := n2_; clear n0_ n1_ n2_; (try clear hb); (try clear hk); (try clear hi); (try clear hc_0); (try clear hc_1); (try clear hc_2); (try clear hc_3); (try clear hf_1); (try clear hf_2); (try clear hf_3); (try clear HS); (try clear cS); (try clear AS); obtain ⟨AS, cS, HG, hg, HS⟩ := HI.out; have hc_0 := cellS62_0 HG; have hc_1 := cellS62_1 HG; have hc_2 := cellS62_2 HG; have hc_3 := cellS62_3 HG; have hf_1 := blk_frozen HG 1; have hf_2 := blk_frozen HG 2; have hf_3 := blk_frozen HG 3; clear hg HG) | (go_at_call 96; (with_reducible refine (wire_Reader_stop.calls g s _ _ _ _ _ _ _ _ w0 _ (by repeat (first | (with_reducible first | exact HI.out | apply IsS146.alloc | apply IsS146.drewN | apply IsS146.drew | apply IsS146.set_1 | apply IsS146.set_2 | apply IsS146.set_3) | exact HI.out)) (by repeat (first | (with_reducible first | exact HB.out | apply below_alloc | apply pw_below_drewN | apply below_drew1 | refine below_set ?_ (IsS146.ge HI.out)) | exact HB.out)) HST.out).mono ?_); rintro e w4 ⟨rfl, hi, hb, hk⟩; have n0_ := Aside0.mk (KeepBut.trans (by repeat (first | (with_reducible first | exact HK.out | apply KeepBut.set_ | apply keep_drewN | apply keep_drew | apply keep_alloc) | exact HK.out)) hk (.inl rfl)); have n1_ := Aside0.mk hb; have n2_ := Aside0.mk hi; clear HK; clear HB; clear HI; have HK := n0_; have HB := n1_; have HI := n2_; clear n0_ n1_ n2_; (try clear hb); (try clear hk); (try clear hi); (try clear hc_0); (try clear hc_1); (try clear hc_2); (try clear hc_3); (try clear hf_1); (try clear hf_2); (try clear hf_3); (try clear HS); (try clear cS); (try clear AS); obtain ⟨AS, cS, HG, hg, HS⟩ := HI.out; have hc_0 := cellS62_0 HG; have hc_1 := cellS62_1 HG; have hc_2 := cellS62_2 HG; have hc_3 := cellS62_3 HG; have hf_1 := blk_frozen HG 1; have hf_2 := blk_frozen HG 2; have hf_3 := blk_frozen HG 3; clear hg HG)); repeat (go_quiet (first | (go_at_call 95; (with_reducible refine (wire_Reader_Err.calls g s _ _ _ _ _ _ _ w0 _ (by repeat (first | (with_reducible first | exact HI.out | apply IsS146.alloc | apply IsS146.drewN | apply IsS146.drew | apply IsS146.set_1 | apply IsS146.set_2 | apply IsS146.set_3) | exact HI.out)) (by repeat (first | (with_reducible first | exact HB.out | apply below_alloc | apply pw_below_drewN | apply below_drew1 | refine below_set ?_ (IsS146.ge HI.out)) | exact HB.out)) HE.out).mono ?_); rintro e w4 ⟨rfl, hi, hb, hk⟩; have n0_ := Aside0.mk (KeepBut.trans (by repeat (first | (with_reducible first | exact HK.out | apply KeepBut.set_ | apply keep_drewN | apply keep_drew | apply keep_alloc) | exact HK.out)) hk (.inl rfl)); have n1_ := Aside0.mk hb; have n2_ := Aside0.mk hi; clear HK; clear HB; clear HI; have HK := n0_; have HB := n1_; have HI := n2_; clear n0_ n1_ n2_; (try clear hb); (try clear hk); (try clear hi); (try clear hc_0); (try clear hc_1); (try clear hc_2); (try clear hc_3); (try clear hf_1); (try clear hf_2); (try clear hf_3); (try clear HS); (try clear cS); (try clear AS); obtain ⟨AS, cS, HG, hg, HS⟩ := HI.out; have hc_0 := cellS62_0 HG; have hc_1 := cellS62_1 HG; have hc_2 := cellS62_2 HG; have hc_3 := cellS62_3 HG; have hf_1 := blk_frozen HG 1; have hf_2 := blk_frozen HG 2; have hf_3 := blk_frozen HG 3; clear hg HG) | (go_at_call 94; (with_reducible refine (wire_Reader_Number.calls 36 g s _ _ _ _ _ _ _ w0 _ (by repeat (first | (with_reducible first | exact HI.out | apply IsS146.alloc | apply IsS146.drewN | apply IsS146.drew | apply IsS146.set_1 | apply IsS146.set_2 | apply IsS146.set_3) | exact HI.out)) (by repeat (first | (with_reducible first | exact HB.out | apply below_alloc | apply pw_below_drewN | apply below_drew1 | refine below_set ?_ (IsS146.ge HI.out)) | exact HB.out)) HN.out).mono ?_); rintro e w4 ⟨rfl, hi, hb, hk⟩; have n0_ := Aside0.mk (KeepBut.trans (by repeat (first | (with_reducible first | exact HK.out | apply KeepBut.set_ | apply keep_drewN | apply keep_drew | apply keep_alloc) | exact HK.out)) hk (.inl rfl)); have n1_ := Aside0.mk hb; have n2_ := Aside0.mk hi; clear HK; clear HB; clear HI; have HK := n0_; have HB := n1_; have HI := n2_; clear n0_ n1_ n2_; (try clear hb); (try clear hk); (try clear hi); (try clear hc_0); (try clear hc_1); (try clear hc_2); (try clear hc_3); (try clear hf_1); (try clear hf_2); (try clear hf_3); (try clear HS); (try clear cS); (try clear AS); obtain ⟨AS, cS, HG, hg, HS⟩ := HI.out; have hc_0 := cellS62_0 HG; have hc_1 := cellS62_1 HG; have hc_2 := cellS62_2 HG; have hc_3 := cellS62_3 HG; have hf_1 := blk_frozen HG 1; have hf_2 := blk_frozen HG 2; have hf_3 := blk_frozen HG 3; clear hg HG) | (go_at_call 96; (with_reducible refine (wire_Reader_stop.calls g s _ _ _ _ _ _ _ _ w0 _ (by repeat (first | (with_reducible first | exact HI.out | apply IsS146.alloc | apply IsS146.drewN | apply IsS146.drew | apply IsS146.set_1 | apply IsS146.set_2 | apply IsS146.set_3) | exact HI.out)) (by repeat (first | (with_reducible first | exact HB.out | apply below_alloc | apply pw_below_drewN | apply below_drew1 | refine below_set ?_ (IsS146.ge HI.out)) | exact HB.out)) HST.out).mono ?_); rintro e w4 ⟨rfl, hi, hb, hk⟩; have n0_ := Aside0.mk (KeepBut.trans (by repeat (first | (with_reducible first | exact HK.out | apply KeepBut.set_ | apply keep_drewN | apply keep_drew | apply keep_alloc) | exact HK.out)) hk (.inl rfl)); have n1_ := Aside0.mk hb; have n2_ := Aside0.mk hi; clear HK; clear HB; clear HI; have HK := n0_; have HB := n1_; have HI := n2_; clear n0_ n1_ n2_; (try clear hb); (try clear hk); (try clear hi); (try clear hc_0); (try clear hc_1); (try clear hc_2); (try clear hc_3); (try clear hf_1); (try clear hf_2); (try clear hf_3); (try clear HS); (try clear cS); (try clear AS); obtain ⟨AS, cS, HG, hg, HS⟩ := HI.out; have hc_0 := cellS62_0 HG; have hc_1 := cellS62_1 HG; have hc_2 := cellS62_2 HG; have hc_3 := cellS62_3 HG; have hf_1 := blk_frozen HG 1; have hf_2 := blk_frozen HG 2; have hf_3 := blk_frozen HG 3; clear hg HG)); try go_wp2_with (first | (go_at_call 95; (with_reducible refine (wire_Reader_Err.calls g s _ _ _ _ _ _ _ w0 _ (by repeat (first | (with_reducible first | exact HI.out | apply IsS146.alloc | apply IsS146.drewN | apply IsS146.drew | apply IsS146.set_1 | apply IsS146.set_2 | apply IsS146.set_3) | exact HI.out)) (by repeat (first | (with_reducible first | exact HB.out | apply below_alloc | apply pw_below_drewN | apply below_drew1 | refine below_set ?_ (IsS146.ge HI.out)) | exact HB.out)) HE.out).mono ?_); rintro e w4 ⟨rfl, hi, hb, hk⟩; have n0_ := Aside0.mk (KeepBut.trans (by repeat (first | (with_reducible first | exact HK.out | apply KeepBut.set_ | apply keep_drewN | apply keep_drew | apply keep_alloc) | exact HK.out)) hk (.inl rfl)); have n1_ := Aside0.mk hb; have n2_ := Aside0.mk hi; clear HK; clear HB; clear HI; have HK := n0_; have HB := n1_; have HI := n2_; clear n0_ n1_ n2_; (try clear hb); (try clear hk); (try clear hi); (try clear hc_0); (try clear hc_1); (try clear hc_2); (try clear hc_3); (try clear hf_1); (try clear hf_2); (try clear hf_3); (try clear HS); (try clear cS); (try clear AS); obtain ⟨AS, cS, HG, hg, HS⟩ := HI.out; have hc_0 := cellS62_0 HG; have hc_1 := cellS62_1 HG; have hc_2 := cellS62_2 HG; have hc_3 := cellS62_3 HG; have hf_1 := blk_frozen HG 1; have hf_2 := blk_frozen HG 2; have hf_3 := blk_frozen HG 3; clear hg HG) | (go_at_call 94; (with_reducible refine (wire_Reader_Number.calls 36 g s _ _ _ _ _ _ _ w0 _ (by repeat (first | (with_reducible first | exact HI.out | apply IsS146.alloc | apply IsS146.drewN | apply IsS146.drew | apply IsS146.set_1 | apply IsS146.set_2 | apply IsS146.set_3) | exact HI.out)) (by repeat (first | (with_reducible first | exact HB.out | apply below_alloc | apply pw_below_drewN | apply below_drew1 | refine below_set ?_ (IsS146.ge HI.out)) | exact HB.out)) HN.out).mono ?_); rintro e w4 ⟨rfl, hi, hb, hk⟩; have n0_ := Aside0.mk (KeepBut.trans (by repeat (first | (with_reducible first | exact HK.out | apply KeepBut.set_ | apply keep_drewN | apply keep_drew | apply keep_alloc) | exact HK.out)) hk (.inl rfl)); have n1_ := Aside0.mk hb; have n2_ := Aside0.mk hi; clear HK; clear HB; clear HI; have HK := n0_; have HB := n1_; have HI := n2_; clear n0_ n1_ n2_; (try clear hb); (try clear hk); (try clear hi); (try clear hc_0); (try clear hc_1); (try clear hc_2); (try clear hc_3); (try clear hf_1); (try clear hf_2); (try clear hf_3); (try clear HS); (try clear cS); (try clear AS); obtain ⟨AS, cS, HG, hg, HS⟩ := HI.out; have hc_0 := cellS62_0 HG; have hc_1 := cellS62_1 HG; have hc_2 := cellS62_2 HG; have hc_3 := cellS62_3 HG; have hf_1 := blk_frozen HG 1; have hf_2 := blk_frozen HG 2; have hf_3 := blk_frozen HG 3; clear hg HG) | (go_at_call 96; (with_reducible refine (wire_Reader_stop.calls g s _ _ _ _ _ _ _ _ w0 _ (by repeat (first | (with_reducible first | exact HI.out | apply IsS146.alloc | apply IsS146.drewN | apply IsS146.drew | apply IsS146.set_1 | apply IsS146.set_2 | apply IsS146.set_3) | exact HI.out)) (by repeat (first | (with_reducible first | exact HB.out | apply below_alloc | apply pw_below_drewN | apply below_drew1 | refine below_set ?_ (IsS146.ge HI.out)) | exact HB.out)) HST.out).mono ?_); rintro e w4 ⟨rfl, hi, hb, hk⟩; have n0_ := Aside0.mk (KeepBut.trans (by repeat (first | (with_reducible first | exact HK.out | apply KeepBut.set_ | apply keep_drewN | apply keep_drew | apply keep_alloc) | exact HK.out)) hk (.inl rfl)); have n1_ := Aside0.mk hb; have n2_ := Aside0.mk hi; clear HK; clear HB; clear HI; have HK := n0_; have HB := n1_; have HI := n2_; clear n0_ n1_ n2_; (try clear hb); (try clear hk); (try clear hi); (try clear hc_0); (try clear hc_1); (try clear hc_2); (try clear hc_3); (try clear hf_1); (try clear hf_2); (try clear hf_3); (try clear HS); (try clear cS); (try clear AS); obtain ⟨AS, cS, HG, hg, HS⟩ := HI.out; have hc_0 := cellS62_0 HG; have hc_1 := cellS62_1 HG; have hc_2 := cellS62_2 HG; have hc_3 := cellS62_3 HG; have hf_1 := blk_frozen HG 1; have hf_2 := blk_frozen HG 2; have hf_3 := blk_frozen HG 3; clear hg HG)))
        go_ret
        exact ⟨_, rfl, Kd.R_nil _ _ _ _ _, by repeat (first | (with_reducible first | exact HI.out | apply IsS146.alloc | apply IsS146.drewN | apply IsS146.drew | apply IsS146.set_1 | apply IsS146.set_2 | apply IsS146.set_3) | exact HI.out), by repeat (first | (with_reducible first | exact HB.out | apply below_alloc | apply pw_below_drewN | apply below_drew1 | refine below_set ?_ (IsS146.ge HI.out)) | exact HB.out), by repeat (first | (with_reducible first | exact HK.out | apply KeepBut.set_ | apply keep_drewN | apply keep_drew | apply keep_alloc) | exact HK.out)⟩
      · rw [if_neg c2]
        have c2b : decide ((s.length : Int) - (p : Int) < (n : Int)) = false := decide_eq_false (by omega)
        obtain ⟨z, hz⟩ : ∃ z : Nat, p + n = z := ⟨_, rfl⟩
        rw [hz]
        have hw4 : wrap64 ((p : Int) + (n : Int)) = (z : Int) := wrap64_sum hz (by clear hw1 hw2 hw3; omega)
        have hw5 : wrap64 (n : Int) = (n : Int) := wrap64_nat (by clear hw1 hw2 hw3 hw4; omega)
        have hw6 : wrap64 ((z : Int) - (n : Int)) = (p : Int) := wrap64_dif hz (by clear hw1 hw2 hw3 hw4 hw5; omega)
        have HZ := Aside0.mk (show p + n = z ∧ z ≤ s.length by clear hw1 hw2 hw3 hw4 hw5 hw6; omega)
        clear hz
        have HC1 := Aside0.mk c1; (try have HC2 := Aside0.mk c2); have HM0 := Aside0.mk hM0; have HLN := Aside0.mk hlen; have HAT := Aside0.mk hat; have HCL := Aside0.mk hcl; have HP := Aside0.mk hp; clear c1 hM0 hlen hat hcl hcp hp; (try clear c2)
        go_enter Try.func81, Try.ntmps81
        obtain ⟨AS, cS, HG, hg, HS⟩ := HI.out; have hc_0 := cellS62_0 HG; have hc_1 := cellS62_1 HG; have hc_2 := cellS62_2 HG; have hc_3 := cellS62_3 HG; have hf_1 := blk_frozen HG 1; have hf_2 := blk_frozen HG 2; have hf_3 := blk_frozen HG 3; clear hg HG
        go_wp2_with (first | (go_at_call 95; (with_reducible refine (wire_Reader_Err.calls g s _ _ _ _ _ _ _ w0 _ (by repeat (first | (with_reducible first | exact HI.out | apply IsS146.alloc | apply IsS146.drewN | apply IsS146.drew | apply IsS146.set_1 | apply IsS146.set_2 | apply IsS146.set_3) | exact HI.out)) (by repeat (first | (with_reducible first | exact HB.out | apply below_alloc | apply pw_below_drewN | apply below_drew1 | refine below_set ?_ (IsS146.ge HI.out)) | exact HB.out)) HE.out).mono ?_); rintro e w4 ⟨rfl, hi, hb, hk⟩; have n0_ := Aside0.mk (KeepBut.trans (by repeat (first | (with_reducible first | exact HK.out | apply KeepBut.set_ | apply keep_drewN | apply keep_drew | apply keep_alloc) | exact HK.out)) hk (.inl rfl)); have n1_ := Aside0.mk hb; have n2_ := Aside0.mk hi; clear HK; clear HB; clear HI; have HK := n0_; have HB := n1_; have HI := n2_; clear n0_ n1_ n2_; (try clear hb); (try clear hk); (try clear hi); (try clear hc_0); (try clear hc_1); (try clear hc_2); (try clear hc_3); (try clear hf_1); (try clear hf_2); (try clear hf_3); (try clear HS); (try clear cS); (try clear AS); obtain ⟨AS, cS, HG, hg, HS⟩ := HI.out; have hc_0 := cellS62_0 HG; have hc_1 := cellS62_1 HG; have hc_2 := cellS62_2 HG; have hc_3 := cellS62_3 HG; have hf_1 := blk_frozen HG 1; have hf_2 := blk_frozen HG 2; have hf_3 := blk_frozen HG 3; clear hg HG) | (go_at_call 94; (with_reducible refine (wire_Reader_Number.calls 36 g s _ _ _ _ _ _ _ w0 _ (by repeat (first | (with_reducible first | exact HI.out | apply IsS146.alloc | apply IsS146.drewN | apply IsS146.drew | apply IsS146.set_1 | apply IsS146.set_2 | apply IsS146.set_3) | exact HI.out)) (by repeat (first | (with_reducible first | exact HB.out | apply below_alloc | apply pw_below_drewN | apply below_drew1 | refine below_set ?_ (IsS146.ge HI.out)) | exact HB.out)) HN.out).mono ?_); rintro e w4 ⟨rfl, hi, hb, hk⟩; have n0_ := Aside0.mk (KeepBut.trans (by repeat (first | (with_reducible first | exact HK.out | apply KeepBut.set_ | apply keep_drewN | apply keep_drew | apply keep_alloc) | exact HK.out)) hk (.inl rfl)); have n1_ := Aside0.mk hb; have n2_ := Aside0.mk hi; clear HK; clear HB; clear HI; have HK := n0_; have HB := n1_; have HI := n2_; clear n0_ n1_ n2_; (try clear hb); (try clear hk); (try clear hi); (try clear hc_0); (try clear hc_1); (try clear hc_2); (try clear hc_3); (try clear hf_1); (try clear hf_2); (try clear hf_3); (try clear HS); (try clear cS); (try clear AS); obtain ⟨AS, cS, HG, hg, HS⟩ := HI.out; have hc_0 := cellS62_0 HG; have hc_1 := cellS62_1 HG; have hc_2 := cellS62_2 HG; have hc_3 := cellS62_3 HG; have hf_1 := blk_frozen HG 1; have hf_2 := blk_frozen HG 2; have hf_3 := blk_frozen HG 3; clear hg HG) | (go_at_call 96; (with_reducible refine (wire_Reader_stop.calls g s _ _ _ _ _ _ _ _ w0 _ (by repeat (first | (with_reducible first | exact HI.out | apply IsS146.alloc | apply IsS146.drewN | apply IsS146.drew | apply IsS146.set_1 | apply IsS146.set_2 | apply IsS146.set_3) | exact HI.out)) (by repeat (first | (with_reducible first | exact HB.out | apply below_alloc | apply pw_below_drewN | apply below_drew1 | refine below_set ?_ (IsS146.ge HI.out)) | exact HB.out)) HST.out).mono ?_); rintro e w4 ⟨rfl, hi, hb, hk⟩; have n0_ := Aside0.mk (KeepBut.trans (by repeat (first | (with_reducible first | exact HK.out | apply KeepBut.set_ | apply keep_drewN | apply keep_drew | apply keep_alloc) | exact HK.out)) hk (.inl rfl)); have n1_ := Aside0.mk hb; have n2_ := Aside0.mk hi; clear HK; clear HB; clear HI; have HK := n0_; have HB := n1_; have HI := n2_; clear n0_ n1_ n2_; (try clear hb); (try clear hk); (try clear hi); (try clear hc_0); (try clear hc_1); (try clear hc_2); (try clear hc_3); (try clear hf_1); (try clear hf_2); (try clear hf_3); (try clear HS); (try clear cS); (try clear AS); obtain ⟨AS, cS, HG, hg, HS⟩ := HI.out; have hc_0 := cellS62_0 HG; have hc_1 := cellS62_1 HG; have hc_2 := cellS62_2 HG; have hc_3 := cellS62_3 HG; have hf_1 := blk_frozen HG 1; have hf_2 := blk_frozen HG 2; have hf_3 := blk_frozen HG 3; clear hg HG)); repeat (go_quiet (first | (go_at_call 95; (with_reducible refine (wire_Reader_Err.calls g s _ _ _ _ _ _ _ w0 _ (by repeat (first | (with_reducible first | exact HI.out | apply IsS146.alloc | apply IsS146.drewN | apply IsS146.drew | apply IsS146.set_1 | apply IsS146.set_2 | apply IsS146.set_3) | exact HI.out)) (by repeat (first | (with_reducible first | exact HB.out | apply below_alloc | apply pw_below_drewN | apply below_drew1 | refine below_set ?_ (IsS146.ge HI.out)) | exact HB.out)) HE.out).mono ?_); rintro e w4 ⟨rfl, hi, hb, hk⟩; have n0_ := Aside0.mk (KeepBut.trans (by repeat (first | (with_reducible first | exact HK.out | apply KeepBut.set_ | apply keep_drewN | apply keep_drew | apply keep_alloc) | exact HK.out)) hk (.inl rfl)); have n1_ := Aside0.mk hb; have n2_ := Aside0.mk hi; clear HK; clear HB; clear HI; have HK := n0_; have HB := n1_; have HI := n2_; clear n0_ n1_ n2_; (try clear hb); (try clear hk); (try clear hi); (try clear hc_0); (try clear hc_1); (try clear hc_2); (try clear hc_3); (try clear hf_1); (try clear hf_2); (try clear hf_3); (try clear HS); (try clear cS); (try clear AS); obtain ⟨AS, cS, HG, hg, HS⟩ := HI.out; have hc_0 := cellS62_0 HG; have hc_1 := cellS62_1 HG; have hc_2 := cellS62_2 HG; have hc_3 := cellS62_3 HG; have hf_1 := blk_frozen HG 1; have hf_2 := blk_frozen HG 2; have hf_3 := blk_frozen HG 3; clear hg HG) | (go_at_call 94; (with_reducible refine (wire_Reader_Number.calls 36 g s _ _ _ _ _ _ _ w0 _ (by repeat (first | (with_reducible first | exact HI.out | apply IsS146.alloc | apply IsS146.drewN | apply IsS146.drew | apply IsS146.set_1 | apply IsS146.set_2 | apply IsS146.set_3) | exact HI.out)) (by repeat (first | (with_reducible first | exact HB.out | apply below_alloc | apply pw_below_drewN | apply below_drew1 | refine below_set ?_ (IsS146.ge HI.out)) | exact HB.out)) HN.out).mono ?_); rintro e w4 ⟨rfl, hi, hb, hk⟩; have n0_ := Aside0.mk (KeepBut.trans (by repeat (first | (with_reducible first | exact HK.out | apply KeepBut.set_ | apply keep_drewN | apply keep_drew | apply keep_alloc) | exact HK.out)) hk (.inl rfl)); have n1_ := Aside0.mk hb; have n2_ := Aside0.mk hi; clear HK; clear HB; clear HI; have HK := n0_; have HB := n1_; have HI := n2_; clear n0_ n1_ n2_; (try clear hb); (try clear hk); (try clear hi); (try clear hc_0); (try clear hc_1); (try clear hc_2); (try clear hc_3); (try clear hf_1); (try clear hf_2); (try clear hf_3); (try clear HS); (try clear cS); (try clear AS); obtain ⟨AS, cS, HG, hg, HS⟩ := HI.out; have hc_0 := cellS62_0 HG; have hc_1 := cellS62_1 HG; have hc_2 := cellS62_2 HG; have hc_3 := cellS62_3 HG; have hf_1 := blk_frozen HG 1; have hf_2 := blk_frozen HG 2; have hf_3 := blk_frozen HG 3; clear hg HG) | (go_at_call 96; (with_reducible refine (wire_Reader_stop.calls g s _ _ _ _ _ _ _ _ w0 _ (by repeat (first | (with_reducible first | exact HI.out | apply IsS146.alloc | apply IsS146.drewN | apply IsS146.drew | apply IsS146.set_1 | apply IsS146.set_2 | apply IsS146.set_3) | exact HI.out)) (by repeat (first | (with_reducible first | exact HB.out | apply below_alloc | apply pw_below_drewN | apply below_drew1 | refine below_set ?_ (IsS146.ge HI.out)) | exact HB.out)) HST.out).mono ?_); rintro e w4 ⟨rfl, hi, hb, hk⟩; have n0_ := Aside0.mk (KeepBut.trans (by repeat (first | (with_reducible first | exact HK.out | apply KeepBut.set_ | apply keep_drewN | apply keep_drew | apply keep_alloc) | exact HK.out)) hk (.inl rfl)); have n1_ := Aside0.mk hb; have n2_ := Aside0.mk hi; clear HK; clear HB; clear HI; have HK := n0_; have HB := n1_; have HI := n2_; clear n0_ n1_ n2_; (try clear hb); (try clear hk); (try clear hi); (try clear hc_0); (try clear hc_1); (try clear hc_2); (try clear hc_3); (try clear hf_1); (try clear hf_2); (try clear hf_3); (try clear HS); (try clear cS); (try clear AS); obtain ⟨AS, cS, HG, hg, HS⟩ := HI.out; have hc_0 := cellS62_0 HG; have hc_1 := cellS62_1 HG; have hc_2 := cellS62_2 HG; have hc_3 := cellS62_3 HG; have hf_1 := blk_frozen HG 1; have hf_2 := blk_frozen HG 2; have hf_3 := blk_frozen HG 3; clear hg HG)); try go_wp2_with (first | (go_at_call 95; (with_reducible refine (wire_Reader_Err.calls g s _ _ _ _ _ _ _ w0 _ (by repeat (first | (with_reducible first | exact HI.out | apply IsS146.alloc | apply IsS146.drewN | apply IsS146.drew | apply IsS146.set_1 | apply IsS146.set_2 | apply IsS146.set_3) | exact HI.out)) (by repeat (first | (with_reducible first | exact HB.out | apply below_alloc | apply pw_below_drewN | apply below_drew1 | refine below_set ?_ (IsS146.ge HI.out)) | exact HB.out)) HE.out).mono ?_); rintro e w4 ⟨rfl, hi, hb, hk⟩; have n0_ := Aside0.mk (KeepBut.trans (by repeat (first | (with_reducible first | exact HK.out | apply KeepBut.set_ | apply keep_drewN | apply keep_drew | apply keep_alloc) | exact HK.out)) hk (.inl rfl)); have n1_ := Aside0.mk hb; have n2_ := Aside0.mk hi; clear HK; clear HB; clear HI; have HK := n0_; have HB := n1_; have HI := n2_; clear n0_ n1_ n2_; (try clear hb); (try clear hk); (try clear hi); (try clear hc_0); (try clear hc_1); (try clear hc_2); (try clear hc_3); (try clear hf_1); (try clear hf_2); (try clear hf_3); (try clear HS); (try clear cS); (try clear AS); obtain ⟨AS, cS, HG, hg, HS⟩ := HI.out; have hc_0 := cellS62_0 HG; have hc_1 := cellS62_1 HG; have hc_2 := cellS62_2 HG; have hc_3 := cellS62_3 HG; have hf_1 := blk_frozen HG 1; have hf_2 := blk_frozen HG 2; have hf_3 := blk_frozen HG 3; clear hg HG) | (go_at_call 94; (with_reducible refine (wire_Reader_Number.calls 36 g s _ _ _ _ _ _ _ w0 _ (by repeat (first | (with_reducible first | exact HI.out | apply IsS146.alloc | apply IsS146.drewN | apply IsS146.drew | apply IsS146.set_1 | apply IsS146.set_2 | apply IsS146.set_3) | exact HI.out)) (by repeat (first | (with_reducible first | exact HB.out | apply below_alloc | apply pw_below_drewN | apply below_drew1 | refine below_set ?_ (IsS146.ge HI.out)) | exact HB.out)) HN.out).mono ?_); rintro e w4 ⟨rfl, hi, hb, hk⟩; have n0_ := Aside0.mk (KeepBut.trans (by repeat (first | (with_reducible first | exact HK.out | apply KeepBut.set_ | apply keep_drewN | apply keep_drew | apply keep_alloc) | exact HK.out)) hk (.inl rfl)); have n1_ := Aside0.mk hb; have n2_ := Aside0.mk hi; clear HK; clear HB; clear HI; have HK := n0_; have HB := n1_; have HI := n2_; clear n0_ n1_ n2_; (try clear hb); (try clear hk); (try clear hi); (try clear hc_0); (try clear hc_1); (try clear hc_2); (try clear hc_3); (try clear hf_1); (try clear hf_2); (try clear hf_3); (try clear HS); (try clear cS); (try clear AS); obtain ⟨AS, cS, HG, hg, HS⟩ := HI.out; have hc_0 := cellS62_0 HG; have hc_1 := cellS62_1 HG; have hc_2 := cellS62_2 HG; have hc_3 := cellS62_3 HG; have hf_1 := blk_frozen HG 1; have hf_2 := blk_frozen HG 2; have hf_3 := blk_frozen HG 3; clear hg HG) | (go_at_call 96; (with_reducible refine (wire_Reader_stop.calls g s _ _ _ _ _ _ _ _ w0 _ (by repeat (first | (with_reducible first | exact HI.out | apply IsS146.alloc | apply IsS146.drewN | apply IsS146.drew | apply IsS146.set_1 | apply IsS146.set_2 | apply IsS146.set_3) | exact HI.out)) (by repeat (first | (with_reducible first | exact HB.out | apply below_alloc | apply pw_below_drewN | apply below_drew1 | refine below_set ?_ (IsS146.ge HI.out)) | exact HB.out)) HST.out).mono ?_); rintro e w4 ⟨rfl, hi, hb, hk⟩; have n0_ := Aside0.mk (KeepBut.trans (by repeat (first | (with_reducible first | exact HK.out | apply KeepBut.set_ | apply keep_drewN | apply keep_drew | apply keep_alloc) | exact HK.out)) hk (.inl rfl)); have n1_ := Aside0.mk hb; have n2_ := Aside0.mk hi; clear HK; clear HB; clear HI; have HK := n0_; have HB := n1_; have HI := n2_; clear n0_ n1_ n2_; (try clear hb); (try clear hk); (try clear hi); (try clear hc_0); (try clear hc_1); (try clear hc_2); (try clear hc_3); (try clear hf_1); (try clear hf_2); (try clear hf_3); (try clear HS); (try clear cS); (try clear AS); obtain ⟨AS, cS, HG, hg, HS⟩ := HI.out; have hc_0 := cellS62_0 HG; have hc_1 := cellS62_1 HG; have hc_2 := cellS62_2 HG; have hc_3 := cellS62_3 HG; have hf_1 := blk_frozen HG 1; have hf_2 := blk_frozen HG 2; have hf_3 := blk_frozen HG 3; clear hg HG)))
        refine with_world (fun w' => IsS146 w0 w' g s (z : Int) 0 true ∧ Below w0.heap.size w0 w' ∧ KeepBut w w' g none) ⟨by repeat (first | (with_reducible first | exact HI.out | apply IsS146.alloc | apply IsS146.drewN | apply IsS146.drew | apply IsS146.set_1 | apply IsS146.set_2 | apply IsS146.set_3) | exact HI.out), by repeat (first | (with_reducible first | exact HB.out | apply below_alloc | apply pw_below_drewN | apply below_drew1 | refine below_set ?_ (IsS146.ge HI.out)) | exact HB.out), by repeat (first | (with_reducible first | exact HK.out | apply KeepBut.set_ | apply keep_drewN | apply keep_drew | apply keep_alloc) | exact HK.out)⟩ ?_
        (try clear hc_0); (try clear hc_1); (try clear hc_2); (try clear hc_3); (try clear hf_1); (try clear hf_2); (try clear hf_3); (try clear HS); (try clear cS); (try clear AS)
        clear HI HB HK
        rintro w5 ⟨hI, hB, hK⟩
        have HI := Aside0.mk hI
        have HB := Aside0.mk hB
        have HK := Aside0.mk hK
        have HBB := Aside0.mk (Below.refl w5.heap.size w5)
        clear hI hB hK
        obtain ⟨AS, cS, HG, hg, HS⟩ := HI.out; have hc_0 := cellS62_0 HG; have hc_1 := cellS62_1 HG; have hc_2 := cellS62_2 HG; have hc_3 := cellS62_3 HG; have hf_1 := blk_frozen HG 1; have hf_2 := blk_frozen HG 2; have hf_3 := blk_frozen HG 3; clear hg HG
        obtain ⟨A1, c1, hcut, hC1x, hC1l⟩ := cut_bytes AS cS s p n z HS.1 HS.2 HZ.out.1 HZ.out.2
        have HLY := Aside0.mk (show ((s.drop p).take n).length ≤ s.length by rw [List.length_take, List.length_drop]; omega)
        generalize hyy : (s.drop p).take n = y at HLY hcut hC1x hC1l
        have HYY := Aside0.mk hyy
        clear hyy
        have HC1x := Aside0.mk hC1x
        have HC1l := Aside0.mk hC1l
        clear hC1x hC1l HS
        obtain ⟨y1, Ny1⟩ : ∃ y_ : List Int, Aside0 (y_ = ([] : List Int)) := ⟨_, ⟨rfl⟩⟩
        have LMy := Aside0.mk (show y1.length + y.length < 140737488355328 by have h1 := HLN.out; have h2 := HLY.out; rw [Ny1.out]; simp only [List.length_nil]; omega)
        have Ny2 := Aside0.mk (show y = y1 ++ y by rw [Ny1.out]; rfl)
        refine start_ (n := 19) (S := fun w' => w'.cell? ⟨g, 0, none⟩ = some (.slice AS s.length cS) ∧ w'.cell? ⟨g, 1, none⟩ = some (.int .i64 (z : Int))) (ds := []) #[false, false, false, false, false, false, false, false, false, false, false, false, false, false, false, false, false, false, false] (by kernel_rfl) rfl rfl ⟨hc_0, hc_1⟩ (fun hHeld => ?_)
        refine pure_ (i := 1) (N := some 58) (v := ?_) (a' := ?_) #[false, true, false, false, false, false, false, false, false, false, false, false, false, false, false, false, false, false, false] rfl rfl (by kernel_rfl) (fun _ _ _ h => h) (Or.inl ⟨by rfl, ?_⟩) ?_ ?_
        rotate_left
        · intro w'
          go_simp
          with_reducible rfl
        rotate_left
        · simp only [Act.put, List.setIfInBounds_toArray, List.set_cons_zero, List.set_cons_succ, i64_w, i32_w]
          rfl
        refine pure_ (i := 2) (N := some 59) (v := ?_) (a' := ?_) #[false, true, true, false, false, false, false, false, false, false, false, false, false, false, false, false, false, false, false] rfl rfl (by kernel_rfl) (fun _ _ _ h => h) (Or.inl ⟨by rfl, ?_⟩) ?_ ?_
        rotate_left
        · intro w'
          go_simp
          with_reducible rfl
        rotate_left
        · simp only [Act.put, List.setIfInBounds_toArray, List.set_cons_zero, List.set_cons_succ, i64_w, i32_w]
          rfl
        refine pure_ (i := 3) (N := some 60) (v := ?_) (a' := ?_) #[false, true, true, true, false, false, false, false, false, false, false, false, false, false, false, false, false, false, false] rfl rfl (by kernel_rfl) (fun _ _ _ h => h) (Or.inl ⟨by rfl, ?_⟩) ?_ ?_
        rotate_left
        · intro w'
          go_simp
          with_reducible rfl
        rotate_left
        · simp only [Act.put, List.setIfInBounds_toArray, List.set_cons_zero, List.set_cons_succ, i64_w, i32_w]
          rfl
        refine pure_ (i := 5) (N := some 62) (v := ?_) (a' := ?_) #[false, true, true, true, false, true, false, false, false, false, false, false, false, false, false, false, false, false, false] rfl rfl (by kernel_rfl) (fun _ _ _ h => h) (Or.inl ⟨by rfl, ?_⟩) ?_ ?_
        rotate_left
        · intro w'
          go_simp
          with_reducible rfl
        rotate_left
        · simp only [Act.put, List.setIfInBounds_toArray, List.set_cons_zero, List.set_cons_succ, i64_w, i32_w]
          rfl
        refine pure_ (i := 6) (N := some 63) (v := ?_) (a' := ?_) #[false, true, true, true, false, true, true, false, false, false, false, false, false, false, false, false, false, false, false] rfl rfl (by kernel_rfl) (fun _ _ _ h => h) (Or.inl ⟨by rfl, ?_⟩) ?_ ?_
        rotate_left
        · intro w'
          go_simp
          with_reducible rfl
        rotate_left
        · simp only [Act.put, List.setIfInBounds_toArray, List.set_cons_zero, List.set_cons_succ, i64_w, i32_w]
          rfl
        refine pure_ (i := 7) (N := some 64) (v := ?_) (a' := ?_) #[false, true, true, true, false, true, true, true, false, false, false, false, false, false, false, false, false, false, false] rfl rfl (by kernel_rfl) (fun _ _ _ h => h) (Or.inl ⟨by rfl, ?_⟩) ?_ ?_
        rotate_left
        · intro w'
          go_simp
          with_reducible rfl
        rotate_left
        · simp only [Act.put, List.setIfInBounds_toArray, List.set_cons_zero, List.set_cons_succ, i64_w, i32_w]
          rfl
        refine pure_ (i := 9) (N := some 66) (v := ?_) (a' := ?_) #[false, true, true, true, false, true, true, true, false, true, false, false, false, false, false, false, false, false, false] rfl rfl (by kernel_rfl) (fun _ _ _ h => h) (Or.inl ⟨by rfl, ?_⟩) ?_ ?_
        rotate_left
        · intro w'
          go_simp
          with_reducible rfl
        rotate_left
        · simp only [Act.put, List.setIfInBounds_toArray, List.set_cons_zero, List.set_cons_succ, i64_w, i32_w]
          rfl
        refine pure_ (i := 10) (N := some 67) (v := ?_) (a' := ?_) #[false, true, true, true, false, true, true, true, false, true, true, false, false, false, false, false, false, false, false] rfl rfl (by kernel_rfl) (fun _ _ _ h => h) (Or.inl ⟨by rfl, ?_⟩) ?_ ?_
        rotate_left
        · intro w'
          go_simp
          with_reducible rfl
        rotate_left
        · simp only [Act.put, List.setIfInBounds_toArray, List.set_cons_zero, List.set_cons_succ, i64_w, i32_w]
          rfl
        refine pure_ (i := 12) (N := some 69) (v := ?_) (a' := ?_) #[false, true, true, true, false, true, true, true, false, true, true, false, true, false, false, false, false, false, false] rfl rfl (by kernel_rfl) (fun _ _ _ h => h) (Or.inl ⟨by rfl, ?_⟩) ?_ ?_
        rotate_left
        · intro w'
          go_simp
          with_reducible rfl
        rotate_left
        · simp only [Act.put, List.setIfInBounds_toArray, List.set_cons_zero, List.set_cons_succ, i64_w, i32_w]
          rfl
        refine pure_ (i := 13) (N := some 70) (v := ?_) (a' := ?_) #[false, true, true, true, false, true, true, true, false, true, true, false, true, true, false, false, false, false, false] rfl rfl (by kernel_rfl) (fun _ _ _ h => h) (Or.inl ⟨by rfl, ?_⟩) ?_ ?_
        rotate_left
        · intro w'
          go_simp
          with_reducible rfl
        rotate_left
        · simp only [Act.put, List.setIfInBounds_toArray, List.set_cons_zero, List.set_cons_succ, i64_w, i32_w]
          rfl
        refine pure_ (i := 14) (N := some 71) (v := ?_) (a' := ?_) #[false, true, true, true, false, true, true, true, false, true, true, false, true, true, true, false, false, false, false] rfl rfl (by kernel_rfl) (fun _ _ _ h => h) (Or.inl ⟨by rfl, ?_⟩) ?_ ?_
        rotate_left
        · intro w'
          go_simp
          with_reducible rfl
        rotate_left
        · simp only [Act.put, List.setIfInBounds_toArray, List.set_cons_zero, List.set_cons_succ, i64_w, i32_w]
          rfl
        refine take_ (i := 4) (N := some 61) (v := ?_) (a' := ?_) #[false, true, true, true, true, true, true, true, false, true, true, false, true, true, true, false, false, false, false] rfl rfl (by kernel_rfl) (fun _ _ _ h => h) (Or.inl ⟨by rfl, ?_⟩) hHeld ?_ ?_
        rotate_left
        · rintro w' ⟨s0, s1⟩
          go_simp
          with_reducible rfl
        rotate_left
        · simp only [Act.put, List.setIfInBounds_toArray, List.set_cons_zero, List.set_cons_succ, i64_w, i32_w]
          rfl
        refine take_ (i := 8) (N := some 65) (v := ?_) (a' := ?_) #[false, true, true, true, true, true, true, true, true, true, true, false, true, true, true, false, false, false, false] rfl rfl (by kernel_rfl) (fun _ _ _ h => h) (Or.inl ⟨by rfl, ?_⟩) hHeld ?_ ?_
        rotate_left
        · rintro w' ⟨s0, s1⟩
          go_simp
          with_reducible rfl
        rotate_left
        · simp only [Act.put, List.setIfInBounds_toArray, List.set_cons_zero, List.set_cons_succ, i64_w, i32_w]
          rfl
        refine pure_ (i := 11) (N := some 68) (v := ?_) (a' := ?_) #[false, true, true, true, true, true, true, true, true, true, true, true, true, true, true, false, false, false, false] rfl rfl (by kernel_rfl) (fun _ _ _ h => h) (Or.inl ⟨by rfl, ?_⟩) ?_ ?_
        rotate_left
        · intro w'
          go_simp
          with_reducible rfl
        rotate_left
        · simp only [Act.put, List.setIfInBounds_toArray, List.set_cons_zero, List.set_cons_succ, i64_w, i32_w]
          rfl
        refine take_ (i := 15) (N := some 72) (v := ?_) (a' := ?_) #[false, true, true, true, true, true, true, true, true, true, true, true, true, true, true, true, false, false, false] rfl rfl (by kernel_rfl) (fun _ _ _ h => h) (Or.inl ⟨by rfl, ?_⟩) hHeld ?_ ?_
        rotate_left
        · rintro w' ⟨s0, s1⟩
          go_simp
          with_reducible rfl
        rotate_left
        · simp only [Act.put, List.setIfInBounds_toArray, List.set_cons_zero, List.set_cons_succ, i64_w, i32_w]
          rfl
        refine pure_ (i := 16) (N := some 73) (v := ?_) (a' := ?_) #[false, true, true, true, true, true, true, true, true, true, true, true, true, true, true, true, true, false, false] rfl rfl (by kernel_rfl) (fun _ _ _ h => h) (Or.inl ⟨by rfl, ?_⟩) ?_ ?_
        rotate_left
        · intro w'
          go_simp
          with_reducible rfl
        rotate_left
        · simp only [Act.put, List.setIfInBounds_toArray, List.set_cons_zero, List.set_cons_succ, i64_w, i32_w]
          rfl
        refine one_ (i := 0) (N := some 57) #[true, true, true, true, true, true, true, true, true, true, true, true, true, true, true, true, true, false, false] rfl rfl (by kernel_rfl) (by decide) (fun K hK => ?_)
        refine Kd.R_lit_step (Kd.int .u8) _ 5 (by rfl) (N := 57) ?hd (xs := ([] : List Int)) (inner := []) (ok := fun k => k ≠ g) (okp := fun _ => False) ?hr ?hp (fun _ hk => hk.elim) (IsS146.fresh HI.out _ (below_size (by repeat (first | (with_reducible first | exact HBB.out | apply below_alloc | apply pw_below_drewN | apply below_drew1) | exact HBB.out)))) (Below.refl _ _) (Nat.le_refl _) (by simp) ?_
        case hd => rfl
        case hr => first | (go_simp; done) | (go_simp; rfl)
        case hp => exact (Reps.none _ _)
        intro va wa ho5 hb hg_ hnew_
        clear hg_ hnew_
        (first | rw [← Ny1.out] at ho5 | (simp only [Int.reduceToNat] at ho5; rw [← Ny1.out] at ho5))
        have n0_ := Aside0.mk (Kd.R_lower ho5 (below_size (by repeat (first | (with_reducible first | exact HBB.out | apply below_alloc | apply pw_below_drewN | apply below_drew1) | exact HBB.out))))
        have n1_ := Aside0.mk (below_step (by repeat (first | (with_reducible first | exact HBB.out | apply below_alloc | apply pw_below_drewN | apply below_drew1) | exact HBB.out)) hb)
        clear HBB
        have HOa := n0_
        have HBB := n1_
        clear n0_ n1_
        refine hK.out _ _ ⟨(hb.cell (World.block_lt_of_cell? _ _ hHeld.1)).trans hHeld.1, (hb.cell (World.block_lt_of_cell? _ _ hHeld.2)).trans hHeld.2⟩ (fun hHeld => ?_)
        clear hK K
        refine norm_ (a' := ?_) ?_ ?_
        rotate_left
        · show Act.put _ (some 57) _ = _
          simp only [Act.put, List.setIfInBounds_toArray, List.set_cons_zero, List.set_cons_succ, i64_w, i32_w]
          rfl
        refine one_ (i := 17) (N := some 74) #[true, true, true, true, true, true, true, true, true, true, true, true, true, true, true, true, true, true, false] rfl rfl (by kernel_rfl) (by decide) (fun K hK => ?_)
        refine Kd.R_append_rows_step (Kd.int .u8) (w0 := w5) w5.heap.size (by rfl) (.tmp 57) (.tmp 73) 32 5 (.int .u8 0) 1 (by rfl) Try.underlying32 info5 rfl (by decide) (by omega) va y1 y _ _ _ (fun k => k ≠ g) (fun _ => False) (by rfl) (by rfl) ?aO ?aR (fun _ _ h => h) (fun _ h => h.elim) ?aF ?aB ?aS ?aL ?_
        case aR => exact Kd.C_below (Kd.C_below HC1x.out HB.out) (by repeat (first | (with_reducible first | exact HBB.out | apply below_alloc | apply pw_below_drewN | apply below_drew1) | exact HBB.out))
        case aB => exact (by repeat (first | (with_reducible first | exact HBB.out | apply below_alloc | apply pw_below_drewN | apply below_drew1) | exact HBB.out))
        case aF => exact fun k hk => IsS146.fresh HI.out k (Nat.le_trans (below_size (by repeat (first | (with_reducible first | exact HBB.out | apply below_alloc | apply pw_below_drewN | apply below_drew1) | exact HBB.out))) hk)
        case aO => exact (by (with_reducible repeat (first | apply Kd.R_alloc | apply Kd.R_drewN | apply Kd.R_drew)); exact HOa.out)
        case aS => exact (below_size (by repeat (first | (with_reducible first | exact HBB.out | apply below_alloc | apply pw_below_drewN | apply below_drew1) | exact HBB.out)))
        case aL => have := LMy.out; omega
        intro vb w6 ho hb hg hat
        rw [← Ny2.out] at ho
        have n0_ := Aside0.mk hb
        have n1_ := Aside0.mk ho
        clear HBB HOa
        have HBB := n0_
        have HOa := n1_
        clear n0_ n1_
        refine hK.out _ _ ⟨(hb.cell (World.block_lt_of_cell? _ _ hc_0)).trans hc_0, (hb.cell (World.block_lt_of_cell? _ _ hc_1)).trans hc_1⟩ (fun hHeld => ?_)
        clear hK K
        refine norm_ (a' := ?_) ?_ ?_
        rotate_left
        · show Act.put _ (some 74) _ = _
          simp only [Act.put, List.setIfInBounds_toArray, List.set_cons_zero, List.set_cons_succ, i64_w, i32_w]
          rfl
        refine pure_ (i := 18) (N := some 4) (v := ?_) (a' := ?_) #[true, true, true, true, true, true, true, true, true, true, true, true, true, true, true, true, true, true, true] rfl rfl (by kernel_rfl) (fun _ _ _ h => h) (Or.inl ⟨by rfl, ?_⟩) ?_ ?_
        rotate_left
        · intro w'
          go_simp
          with_reducible rfl
        rotate_left
        · simp only [Act.put, List.setIfInBounds_toArray, List.set_cons_zero, List.set_cons_succ, i64_w, i32_w]
          rfl
        refine done_ (by kernel_rfl) ?_
        go_wp2
        go_ret
        exact ⟨vb, rfl, by rw [HYY.out]; exact Kd.R_lower HOa.out HK.out.1, IsS146.below HI.out HBB.out, below_step HB.out HBB.out, KeepBut.trans HK.out (KeepBut.of_below HBB.out g none) (.inl rfl)⟩
  · replace hN : wire_Reader_Number.f 36 s (at_ : Int) 0 true = some (0, (at_ : Int), e, true) := by rw [hN]; unfold res; rw [if_neg c0]
    have HN := Aside0.mk hN
    rw [if_pos c0]
    have c0b : (e != 0) = true := bne_iff_ne.mpr c0
    clear hN hok hmost
    go_enter Try.func81, Try.ntmps81
    obtain ⟨AS, cS, HG, hg, HS⟩ := HI.out; have hc_0 := cellS62_0 HG; have hc_1 := cellS62_1 HG; have hc_2 := cellS62_2 HG; have hc_3 := cellS62_3 HG; have hf_1 := blk_frozen HG 1; have hf_2 := blk_frozen HG 2; have hf_3 := blk_frozen HG 3; clear hg HG
    go_wp2_with (first | (go_at_call 95; (with_reducible refine (wire_Reader_Err.calls g s _ _ _ _ _ _ _ w0 _ (by repeat (first | (with_reducible first | exact HI.out | apply IsS146.alloc | apply IsS146.drewN | apply IsS146.drew | apply IsS146.set_1 | apply IsS146.set_2 | apply IsS146.set_3) | exact HI.out)) (by repeat (first | (with_reducible first | exact HB.out | apply below_alloc | apply pw_below_drewN | apply below_drew1 | refine below_set ?_ (IsS146.ge HI.out)) | exact HB.out)) HE.out).mono ?_); rintro e w4 ⟨rfl, hi, hb, hk⟩; have n0_ := Aside0.mk (KeepBut.trans (by repeat (first | (with_reducible first | exact HK.out | apply KeepBut.set_ | apply keep_drewN | apply keep_drew | apply keep_alloc) | exact HK.out)) hk (.inl rfl)); have n1_ := Aside0.mk hb; have n2_ := Aside0.mk hi; clear HK; clear HB; clear HI; have HK := n0_; have HB := n1_; have HI := n2_; clear n0_ n1_ n2_; (try clear hb); (try clear hk); (try clear hi); (try clear hc_0); (try clear hc_1); (try clear hc_2); (try clear hc_3); (try clear hf_1); (try clear hf_2); (try clear hf_3); (try clear HS); (try clear cS); (try clear AS); obtain ⟨AS, cS, HG, hg, HS⟩ := HI.out; have hc_0 := cellS62_0 HG; have hc_1 := cellS62_1 HG; have hc_2 := cellS62_2 HG; have hc_3 := cellS62_3 HG; have hf_1 := blk_frozen HG 1; have hf_2 := blk_frozen HG 2; have hf_3 := blk_frozen HG 3; clear hg HG) | (go_at_call 94; (with_reducible refine (wire_Reader_Number.calls 36 g s _ _ _ _ _ _ _ w0 _ (by repeat (first | (with_reducible first | exact HI.out | apply IsS146.alloc | apply IsS146.drewN | apply IsS146.drew | apply IsS146.set_1 | apply IsS146.set_2 | apply IsS146.set_3) | exact HI.out)) (by repeat (first | (with_reducible first | exact HB.out | apply below_alloc | apply pw_below_drewN | apply below_drew1 | refine below_set ?_ (IsS146.ge HI.out)) | exact HB.out)) HN.out).mono ?_); rintro e w4 ⟨rfl, hi, hb, hk⟩; have n0_ := Aside0.mk (KeepBut.trans (by repeat (first | (with_reducible first | exact HK.out | apply KeepBut.set_ | apply keep_drewN | apply keep_drew | apply keep_alloc) | exact HK.out)) hk (.inl rfl)); have n1_ := Aside0.mk hb; have n2_ := Aside0.mk hi; clear HK; clear HB; clear HI; have HK := n0_; have HB := n1_; have HI := n2_; clear n0_ n1_ n2_; (try clear hb); (try clear hk); (try clear hi); (try clear hc_0); (try clear hc_1); (try clear hc_2); (try clear hc_3); (try clear hf_1); (try clear hf_2); (try clear hf_3); (try clear HS); (try clear cS); (try clear AS); obtain ⟨AS, cS, HG, hg, HS⟩ := HI.out; have hc_0 := cellS62_0 HG; have hc_1 := cellS62_1 HG; have hc_2 := cellS62_2 HG; have hc_3 := cellS62_3 HG; have hf_1 := blk_frozen HG 1; have hf_2 := blk_frozen HG 2; have hf_3 := blk_frozen HG 3; clear hg HG) | (go_at_call 96; (with_reducible refine (wire_Reader_stop.calls g s _ _ _ _ _ _ _ _ w0 _ (by repeat (first | (with_reducible first | exact HI.out | apply IsS146.alloc | apply IsS146.drewN | apply IsS146.drew | apply IsS146.set_1 | apply IsS146.set_2 | apply IsS146.set_3) | exact HI.out)) (by repeat (first | (with_reducible first | exact HB.out | apply below_alloc | apply pw_below_drewN | apply below_drew1 | refine below_set ?_ (IsS146.ge HI.out)) | exact HB.out)) HST.out).mono ?_); rintro e w4 ⟨rfl, hi, hb, hk⟩; have n0_ := Aside0.mk (KeepBut.trans (by repeat (first | (with_reducible first | exact HK.out | apply KeepBut.set_ | apply keep_drewN | apply keep_drew | apply keep_alloc) | exact HK.out)) hk (.inl rfl)); have n1_ := Aside0.mk hb; have n2_ := Aside0.mk hi; clear HK; clear HB; clear HI; have HK := n0_; have HB := n1_; have HI := n2_; clear n0_ n1_ n2_; (try clear hb); (try clear hk); (try clear hi); (try clear hc_0); (try clear hc_1); (try clear hc_2); (try clear hc_3); (try clear hf_1); (try clear hf_2); (try clear hf_3); (try clear HS); (try clear cS); (try clear AS); obtain ⟨AS, cS, HG, hg, HS⟩ := HI.out; have hc_0 := cellS62_0 HG; have hc_1 := cellS62_1 HG; have hc_2 := cellS62_2 HG; have hc_3 := cellS62_3 HG; have hf_1 := blk_frozen HG 1; have hf_2 := blk_frozen HG 2; have hf_3 := blk_frozen HG 3; clear hg HG)); repeat (go_quiet (first | (go_at_call 95; (with_reducible refine (wire_Reader_Err.calls g s _ _ _ _ _ _ _ w0 _ (by repeat (first | (with_reducible first | exact HI.out | apply IsS146.alloc | apply IsS146.drewN | apply IsS146.drew | apply IsS146.set_1 | apply IsS146.set_2 | apply IsS146.set_3) | exact HI.out)) (by repeat (first | (with_reducible first | exact HB.out | apply below_alloc | apply pw_below_drewN | apply below_drew1 | refine below_set ?_ (IsS146.ge HI.out)) | exact HB.out)) HE.out).mono ?_); rintro e w4 ⟨rfl, hi, hb, hk⟩; have n0_ := Aside0.mk (KeepBut.trans (by repeat (first | (with_reducible first | exact HK.out | apply KeepBut.set_ | apply keep_drewN | apply keep_drew | apply keep_alloc) | exact HK.out)) hk (.inl rfl)); have n1_ := Aside0.mk hb; have n2_ := Aside0.mk hi; clear HK; clear HB; clear HI; have HK := n0_; have HB := n1_; have HI := n2_; clear n0_ n1_ n2_; (try clear hb); (try clear hk); (try clear hi); (try clear hc_0); (try clear hc_1); (try clear hc_2); (try clear hc_3); (try clear hf_1); (try clear hf_2); (try clear hf_3); (try clear HS); (try clear cS); (try clear AS); obtain ⟨AS, cS, HG, hg, HS⟩ := HI.out; have hc_0 := cellS62_0 HG; have hc_1 := cellS62_1 HG; have hc_2 := cellS62_2 HG; have hc_3 := cellS62_3 HG; have hf_1 := blk_frozen HG 1; have hf_2 := blk_frozen HG 2; have hf_3 := blk_frozen HG 3; clear hg HG) | (go_at_call 94; (with_reducible refine (wire_Reader_Number.calls 36 g s _ _ _ _ _ _ _ w0 _ (by repeat (first | (with_reducible first | exact HI.out | apply IsS146.alloc | apply IsS146.drewN | apply IsS146.drew | apply IsS146.set_1 | apply IsS146.set_2 | apply IsS146.set_3) | exact HI.out)) (by repeat (first | (with_reducible first | exact HB.out | apply below_alloc | apply pw_below_drewN | apply below_drew1 | refine below_set ?_ (IsS146.ge HI.out)) | exact HB.out)) HN.out).mono ?_); rintro e w4 ⟨rfl, hi, hb, hk⟩; have n0_ := Aside0.mk (KeepBut.trans (by repeat (first | (with_reducible first | exact HK.out | apply KeepBut.set_ | apply keep_drewN | apply keep_drew | apply keep_alloc) | exact HK.out)) hk (.inl rfl)); have n1_ := Aside0.mk hb; have n2_ := Aside0.mk hi; clear HK; clear HB; clear HI; have HK := n0_; have HB := n1_; have HI := n2_; clear n0_ n1_ n2_; (try clear hb); (try clear hk); (try clear hi); (try clear hc_0); (try clear hc_1); (try clear hc_2); (try clear hc_3); (try clear hf_1); (try clear hf_2); (try clear hf_3); (try clear HS); (try clear cS); (try clear AS); obtain ⟨AS, cS, HG, hg, HS⟩ := HI.out; have hc_0 := cellS62_0 HG; have hc_1 := cellS62_1 HG; have hc_2 := cellS62_2 HG; have hc_3 := cellS62_3 HG; have hf_1 := blk_frozen HG 1; have hf_2 := blk_frozen HG 2; have hf_3 := blk_frozen HG 3; clear hg HG) | (go_at_call 96; (with_reducible refine (wire_Reader_stop.calls g s _ _ _ _ _ _ _ _ w0 _ (by repeat (first | (with_reducible first | exact HI.out | apply IsS146.alloc | apply IsS146.drewN | apply IsS146.drew | apply IsS146.set_1 | apply IsS146.set_2 | apply IsS146.set_3) | exact HI.out)) (by repeat (first | (with_reducible first | exact HB.out | apply below_alloc | apply pw_below_drewN | apply below_drew1 | refine below_set ?_ (IsS146.ge HI.out)) | exact HB.out)) HST.out).mono ?_); rintro e w4 ⟨rfl, hi, hb, hk⟩; have n0_ := Aside0.mk (KeepBut.trans (by repeat (first | (with_reducible first | exact HK.out | apply KeepBut.set_ | apply keep_drewN | apply keep_drew | apply keep_alloc) | exact HK.out)) hk (.inl rfl)); have n1_ := Aside0.mk hb; have n2_ := Aside0.mk hi; clear HK; clear HB; clear HI; have HK := n0_; have HB := n1_; have HI := n2_; clear n0_ n1_ n2_; (try clear hb); (try clear hk); (try clear hi); (try clear hc_0); (try clear hc_1); (try clear hc_2); (try clear hc_3); (try clear hf_1); (try clear hf_2); (try clear hf_3); (try clear HS); (try clear cS); (try clear AS); obtain ⟨AS, cS, HG, hg, HS⟩ := HI.out; have hc_0 := cellS62_0 HG; have hc_1 := cellS62_1 HG; have hc_2 := cellS62_2 HG; have hc_3 := cellS62_3 HG; have hf_1 := blk_frozen HG 1; have hf_2 := blk_frozen HG 2; have hf_3 := blk_frozen HG 3; clear hg HG)); try go_wp2_with (first | (go_at_call 95; (with_reducible refine (wire_Reader_Err.calls g s _ _ _ _ _ _ _ w0 _ (by repeat (first | (with_reducible first | exact HI.out | apply IsS146.alloc | apply IsS146.drewN | apply IsS146.drew | apply IsS146.set_1 | apply IsS146.set_2 | apply IsS146.set_3) | exact HI.out)) (by repeat (first | (with_reducible first | exact HB.out | apply below_alloc | apply pw_below_drewN | apply below_drew1 | refine below_set ?_ (IsS146.ge HI.out)) | exact HB.out)) HE.out).mono ?_); rintro e w4 ⟨rfl, hi, hb, hk⟩; have n0_ := Aside0.mk (KeepBut.trans (by repeat (first | (with_reducible first | exact HK.out | apply KeepBut.set_ | apply keep_drewN | apply keep_drew | apply keep_alloc) | exact HK.out)) hk (.inl rfl)); have n1_ := Aside0.mk hb; have n2_ := Aside0.mk hi; clear HK; clear HB; clear HI; have HK := n0_; have HB := n1_; have HI := n2_; clear n0_ n1_ n2_; (try clear hb); (try clear hk); (try clear hi); (try clear hc_0); (try clear hc_1); (try clear hc_2); (try clear hc_3); (try clear hf_1); (try clear hf_2); (try clear hf_3); (try clear HS); (try clear cS); (try clear AS); obtain ⟨AS, cS, HG, hg, HS⟩ := HI.out; have hc_0 := cellS62_0 HG; have hc_1 := cellS62_1 HG; have hc_2 := cellS62_2 HG; have hc_3 := cellS62_3 HG; have hf_1 := blk_frozen HG 1; have hf_2 := blk_frozen HG 2; have hf_3 := blk_frozen HG 3; clear hg HG) | (go_at_call 94; (with_reducible refine (wire_Reader_Number.calls 36 g s _ _ _ _ _ _ _ w0 _ (by repeat (first | (with_reducible first | exact HI.out | apply IsS146.alloc | apply IsS146.drewN | apply IsS146.drew | apply IsS146.set_1 | apply IsS146.set_2 | apply IsS146.set_3) | exact HI.out)) (by repeat (first | (with_reducible first | exact HB.out | apply below_alloc | apply pw_below_drewN | apply below_drew1 | refine below_set ?_ (IsS146.ge HI.out)) | exact HB.out)) HN.out).mono ?_); rintro e w4 ⟨rfl, hi, hb, hk⟩; have n0_ := Aside0.mk (KeepBut.trans (by repeat (first | (with_reducible first | exact HK.out | apply KeepBut.set_ | apply keep_drewN | apply keep_drew | apply keep_alloc) | exact HK.out)) hk (.inl rfl)); have n1_ := Aside0.mk hb; have n2_ := Aside0.mk hi; clear HK; clear HB; clear HI; have HK := n0_; have HB := n1_; have HI := n2_; clear n0_ n1_ n2_; (try clear hb); (try clear hk); (try clear hi); (try clear hc_0); (try clear hc_1); (try clear hc_2); (try clear hc_3); (try clear hf_1); (try clear hf_2); (try clear hf_3); (try clear HS); (try clear cS); (try clear AS); obtain ⟨AS, cS, HG, hg, HS⟩ := HI.out; have hc_0 := cellS62_0 HG; have hc_1 := cellS62_1 HG; have hc_2 := cellS62_2 HG; have hc_3 := cellS62_3 HG; have hf_1 := blk_frozen HG 1; have hf_2 := blk_frozen HG 2; have hf_3 := blk_frozen HG 3; clear hg HG) | (go_at_call 96; (with_reducible refine (wire_Reader_stop.calls g s _ _ _ _ _ _ _ _ w0 _ (by repeat (first | (with_reducible first | exact HI.out | apply IsS146.alloc | apply IsS146.drewN | apply IsS146.drew | apply IsS146.set_1 | apply IsS146.set_2 | apply IsS146.set_3) | exact HI.out)) (by repeat (first | (with_reducible first | exact HB.out | apply below_alloc | apply pw_below_drewN | apply below_drew1 | refine below_set ?_ (IsS146.ge HI.out)) | exact HB.out)) HST.out).mono ?_); rintro e w4 ⟨rfl, hi, hb, hk⟩; have n0_ := Aside0.mk (KeepBut.trans (by repeat (first | (with_reducible first | exact HK.out | apply KeepBut.set_ | apply keep_drewN | apply keep_drew | apply keep_alloc) | exact HK.out)) hk (.inl rfl)); have n1_ := Aside0.mk hb; have n2_ := Aside0.mk hi; clear HK; clear HB; clear HI; have HK := n0_; have HB := n1_; have HI := n2_; clear n0_ n1_ n2_; (try clear hb); (try clear hk); (try clear hi); (try clear hc_0); (try clear hc_1); (try clear hc_2); (try clear hc_3); (try clear hf_1); (try clear hf_2); (try clear hf_3); (try clear HS); (try clear cS); (try clear AS); obtain ⟨AS, cS, HG, hg, HS⟩ := HI.out; have hc_0 := cellS62_0 HG; have hc_1 := cellS62_1 HG; have hc_2 := cellS62_2 HG; have hc_3 := cellS62_3 HG; have hf_1 := blk_frozen HG 1; have hf_2 := blk_frozen HG 2; have hf_3 := blk_frozen HG 3; clear hg HG)))
    go_ret
    exact ⟨_, rfl, Kd.R_nil _ _ _ _ _, by repeat (first | (with_reducible first | exact HI.out | apply IsS146.alloc | apply IsS146.drewN | apply IsS146.drew | apply IsS146.set_1 | apply IsS146.set_2 | apply IsS146.set_3) | exact HI.out), by repeat (first | (with_reducible first | exact HB.out | apply below_alloc | apply pw_below_drewN | apply below_drew1 | refine below_set ?_ (IsS146.ge HI.out)) | exact HB.out), by repeat (first | (with_reducible first | exact HK.out | apply KeepBut.set_ | apply keep_drewN | apply keep_drew | apply keep_alloc) | exact HK.out)⟩
end Go.Proofs.Ytehjbhnlbjbhfaa.Wire
-- PlainS
namespace Go.Proofs.Ytehjbhnlbjbhfaa.Wire
open Go Go.RowKit Go.Proofs.YtehjbhnlbjbhfaaW.PrintWords Go.Proofs.YtehjbhnlbjbhfaaW.PrintLast Go.Proofs.YtehjbhnlbjbhfaaW.PrintMore
open Go.Proofs.Ytehjbhnlbjbhfaa.WBase
set_option linter.unusedVariables false
def bitS (c : Nat) : Nat := if c % 2 = 1 then (c / 2) ^^^ 2197175160 else c / 2
def bitsS : Nat → Nat → Nat
  | 0, c => c
  | n + 1, c => bitsS n (bitS c)
def crc (l : List Int) (c : Nat) : Nat := l.foldl (fun c x => bitsS 8 (c ^^^ x.toNat)) c
def sumP (l : List Int) : Int := ((4294967295 ^^^ crc l 4294967295 : Nat) : Int)
theorem bitS_lt {c : Nat} (h : c < 4294967296) : bitS c < 4294967296 := by
  unfold bitS
  split
  · exact Nat.xor_lt_two_pow (n := 32) (by omega) (by decide)
  · omega
theorem bitsS_lt : ∀ (n c : Nat), c < 4294967296 → bitsS n c < 4294967296 := by
  intro n
  induction n with
  | zero => intro c h; exact h
  | succ n ih => intro c h; exact ih _ (bitS_lt h)
theorem xor_lt {a b : Nat} (ha : a < 4294967296) (hb : b < 4294967296) : a ^^^ b < 4294967296 := Nat.xor_lt_two_pow (n := 32) ha hb
theorem and32 (a b : Nat) (ha : a < 4294967296) (hb : b < 4294967296) : Go.bits .and .u32 (a : Int) (b : Int) = ((a &&& b : Nat) : Int) :=
  (bits_nat .u32 32 (by decide) (fun n h0 h1 => by simp only [IntKind.wrap, IntKind.bits, IntKind.signed]; simp; omega) a b ha hb).1
theorem bit_w (c : Nat) (h : c < 4294967296) : Go.bits .xor .u32 ((c : Int) / 2) (Go.bits .and .u32 2197175160 ((-(Go.bits .and .u32 (c : Int) 1)) % 4294967296)) = (bitS c : Int) := by
  have h1 : Go.bits .and .u32 (c : Int) 1 = ((c % 2 : Nat) : Int) := by
    have := and32 c 1 h (by decide)
    rw [Nat.and_one_is_mod] at this
    exact this
  rw [h1, show (c : Int) / 2 = ((c / 2 : Nat) : Int) by omega]
  unfold bitS
  rcases Nat.mod_two_eq_zero_or_one c with h2 | h2
  · rw [h2, if_neg (by decide), show (-((0 : Nat) : Int)) % 4294967296 = ((0 : Nat) : Int) by decide, show (2197175160 : Int) = ((2197175160 : Nat) : Int) from rfl, and32 _ _ (by decide) (by decide), Nat.and_zero, u32_xor_nat _ _ (by omega) (by decide), Nat.xor_zero]
  · rw [h2, if_pos rfl, show (-((1 : Nat) : Int)) % 4294967296 = ((4294967295 : Nat) : Int) by decide, show (2197175160 : Int) = ((2197175160 : Nat) : Int) from rfl, and32 _ _ (by decide) (by decide), show (2197175160 : Nat) &&& 4294967295 = 2197175160 by decide, u32_xor_nat _ _ (by omega) (by decide)]
theorem sum_l1 (s : List Int) (x8 x9 : Int) : ∀ (n j k : Nat) (c : Nat), c < 4294967296 → j + n = 8 → n < k → wire_Sum.l1 k (c : Int) s x8 x9 (j : Int) = wire_Sum.l0 (k - n - 1) ((bitsS n c : Nat) : Int) s x8 (wrap64 (x9 + 1)) := by
  intro n
  induction n with
  | zero =>
    intro j k c hc hj hk
    obtain ⟨k, rfl⟩ : ∃ k', k = k' + 1 := ⟨k - 1, by omega⟩
    simp only [wire_Sum.l1]
    rw [if_neg (by omega)]
    rfl
  | succ n ih =>
    intro j k c hc hj hk
    obtain ⟨k, rfl⟩ : ∃ k', k = k' + 1 := ⟨k - 1, by omega⟩
    simp only [wire_Sum.l1]
    rw [if_pos (by omega), bit_w c hc, show wrap64 ((j : Int) + 1) = ((j + 1 : Nat) : Int) by unfold wrap64; omega, ih (j + 1) k (bitS c) (bitS_lt hc) (by omega) (by omega), show k + 1 - (n + 1) - 1 = k - n - 1 by omega]
    rfl
theorem sum_l0 (s : List Int) (hs : Bs s) (hlen : s.length < 140737488355328) : ∀ (r : List Int) (i k c : Nat), s.drop i = r → c < 4294967296 → i ≤ s.length → 10 * r.length < k → wire_Sum.l0 k (c : Int) s (s.length : Int) (i : Int) = some ((4294967295 ^^^ crc r c : Nat) : Int) := by
  intro r
  induction r with
  | nil =>
    intro i k c hd hc hi hk
    obtain ⟨k, rfl⟩ : ∃ k', k = k' + 1 := ⟨k - 1, by omega⟩
    have h0 := List.drop_eq_nil_iff.1 hd
    simp only [wire_Sum.l0]
    rw [if_neg (by omega), show (4294967295 : Int) = ((4294967295 : Nat) : Int) from rfl, u32_xor_nat _ _ (by decide) hc]
    rfl
  | cons x r ih =>
    intro i k c hd hc hi hk
    obtain ⟨hx, hlt, hmem, hd2⟩ := rd_drop hd
    obtain ⟨hx0, hx1⟩ := hs x hmem
    obtain ⟨b, rfl⟩ := Int.eq_ofNat_of_zero_le hx0
    rw [List.length_cons] at hk
    obtain ⟨k, rfl⟩ : ∃ k', k = k' + 1 := ⟨k - 1, by omega⟩
    simp only [wire_Sum.l0]
    rw [if_pos (by omega), if_pos (by omega), if_pos (by omega), hx, show (b : Int) % 4294967296 = (b : Int) by omega, u32_xor_nat _ _ hc (by omega)]
    have h1 := sum_l1 s (s.length : Int) (i : Int) 8 0 k (c ^^^ b) (xor_lt hc (by omega)) rfl (by omega)
    refine h1.trans ?_
    clear h1
    rw [show wrap64 ((i : Int) + 1) = ((i + 1 : Nat) : Int) by unfold wrap64; omega]
    exact ih (i + 1) _ _ hd2 (bitsS_lt 8 _ (xor_lt hc (by omega))) (by omega) (by omega)
theorem Sum_eq (s : List Int) (hs : Bs s) (hlen : s.length < 140737488355328) (k : Nat) (hk : 10 * s.length < k) : wire_Sum.f k s = some (sumP s) := sum_l0 s hs hlen s 0 k 4294967295 rfl (by decide) (Nat.zero_le _) hk
end Go.Proofs.Ytehjbhnlbjbhfaa.Wire
-- Open
namespace Go.Proofs.Ytehjbhnlbjbhfaa.Wire
open Go Go.RowKit Go.Proofs.YtehjbhnlbjbhfaaW.PrintWords Go.Proofs.YtehjbhnlbjbhfaaW.PrintLast Go.Proofs.YtehjbhnlbjbhfaaW.PrintMore
open Go.Proofs.Ytehjbhnlbjbhfaa.WBase
set_option linter.unusedVariables false
set_option linter.unusedSimpArgs false
def fourP (a : Int) : List Int := [(a / 16777216) % 256, (a / 65536) % 256, (a / 256) % 256, a % 256]
def openP (l : List Int) : List Int × Nat × Int :=
  if (bytesP (l.take 8208) 0 8192).2.2 ≠ 0 then ([], 0, (bytesP (l.take 8208) 0 8192).2.2)
  else if l.length < (bytesP (l.take 8208) 0 8192).2.1 + 4 then ([], 0, 2)
  else if fourP (sumP (l.take (bytesP (l.take 8208) 0 8192).2.1)) = (l.drop (bytesP (l.take 8208) 0 8192).2.1).take 4 then ((bytesP (l.take 8208) 0 8192).1, (bytesP (l.take 8208) 0 8192).2.1 + 4, 0)
  else ([], 0, 11)
theorem Bs.take {l : List Int} (h : Bs l) (n : Nat) : Bs (l.take n) := fun x hx => h x (List.mem_of_mem_take hx)
theorem Bs.drop {l : List Int} (h : Bs l) (n : Nat) : Bs (l.drop n) := fun x hx => h x (List.mem_of_mem_drop hx)
theorem bytesP_le (s : List Int) (at_ : Nat) (most : Int) (h : at_ ≤ s.length) : (bytesP s at_ most).2.1 ≤ s.length := by
  unfold bytesP
  generalize (if most < 0 then (0 : Int) else most) = M
  split
  · exact h
  · split
    · exact h
    · split
      · exact h
      · rename_i c; show at_ + (num (s.drop at_)).2.1 + (num (s.drop at_)).1 ≤ s.length; omega
theorem rd_nat {l : List Int} {j : Nat} (h : j < l.length) : rd l (j : Int) = l[j] := by
  unfold rd
  rw [Int.toNat_natCast, List.getD_eq_getElem?_getD, List.getElem?_eq_getElem h]; rfl
theorem four_all {x y : List Int} {n : Nat} (hx : x.length = 4) (hn : n + 4 ≤ y.length) (h : ∀ i, i < 4 → rd y ((n + i : Nat) : Int) = rd x (i : Int)) : x = (y.drop n).take 4 := by
  apply List.ext_getElem
  · rw [hx, List.length_take, List.length_drop]; omega
  · intro i h1 h2
    have h3 := h i (by omega)
    rw [rd_nat (by omega), rd_nat (by omega)] at h3
    rw [List.getElem_take, List.getElem_drop]; exact h3.symm
theorem four_not {x y : List Int} {n i : Nat} (hx : x.length = 4) (hn : n + 4 ≤ y.length) (hi : i < 4) (h : rd y ((n + i : Nat) : Int) ≠ rd x (i : Int)) : x ≠ (y.drop n).take 4 := by
  intro e
  apply h
  rw [rd_nat (show n + i < y.length by omega), rd_nat (show i < x.length by omega)]
  subst e
  rw [List.getElem_take, List.getElem_drop]
theorem cut_take {w0 : World} (A : Option Addr) (c : Nat) (s : List Int) (m : Nat) (hC : Kd.C (Kd.int .u8) w0 A s.length s) (hc : s.length ≤ c) (hm : m ≤ s.length) :
    (∀ W : World, (Instr.slice 32 (.slice A s.length c) none (some (.int .i64 (m : Int))) none).run Try.prog W = .ok (.slice A (s.take m).length c) W) ∧ Kd.C (Kd.int .u8) w0 A (s.take m).length (s.take m) ∧ (s.take m).length ≤ c := by
  obtain ⟨i0, hi, hz0, hz1, hz2⟩ := info_parts info5
  have hl : (s.take m).length = m := by rw [List.length_take]; omega
  refine ⟨fun W => ?_, Kd.C_take hC hm, by omega⟩
  rw [cut_to (P := Try.prog) 32 5 .i64 Try.underlying32 hi A s.length c m (by omega) (by omega) hc W, hl, Int.toNat_natCast]
set_option maxHeartbeats 8000000 in
set_option maxRecDepth 100000 in
theorem Open_calls (A0 : Option Addr) (c0 : Nat) (l : List Int) (w : World) (hr0 : Kd.C (Kd.int .u8) w A0 l.length l) (hc0 : l.length ≤ c0) (hs : Bs l) (hlen : l.length < 140737488355328) :
    Calls Try.prog 92 #[.slice A0 l.length c0] w fun e w' => ∃ v, e = .returned (.tuple #[v, .int .i64 ((openP l).2.1 : Int), .int .i64 (openP l).2.2]) ∧ Kd.R (Kd.int .u8) 5 w' w.heap.size (fun _ => True) v (openP l).1 ∧ Below w.heap.size w w' := by
  have HR0 := Aside0.mk hr0
  have HC0 := Aside0.mk hc0
  have HS := Aside0.mk hs
  have HLN := Aside0.mk hlen
  have HO := Aside0.mk (show openP l = openP l from rfl)
  conv at HO => arg 1; rhs; unfold openP
  obtain ⟨P, hP⟩ : ∃ P, openP l = P := ⟨_, rfl⟩
  rw [hP] at HO ⊢
  obtain ⟨m, hm, hml⟩ : ∃ m : Nat, (if (8208 : Int) < (l.length : Int) then (8208 : Int) else (l.length : Int)) = (m : Int) ∧ m ≤ l.length ∧ l.take m = l.take 8208 := by
    by_cases h : (8208 : Int) < (l.length : Int)
    · exact ⟨8208, if_pos h, by omega, rfl⟩
    · exact ⟨l.length, if_neg h, Nat.le_refl _, by rw [List.take_of_length_le (Nat.le_refl _), List.take_of_length_le (by omega)]⟩
  have hbt := bytesP_le (l.take 8208) 0 8192 (Nat.zero_le _)
  have htl : (l.take 8208).length ≤ l.length := List.length_take_le' _ _
  obtain ⟨hcut, hCt, hlt⟩ := cut_take A0 c0 l m HR0.out HC0.out hml.1
  rw [hml.2] at hcut hCt hlt
  have HSy := Aside0.mk (Bs.take hs 8208)
  generalize l.take 8208 = y at *
  obtain ⟨q, hq⟩ : ∃ q, bytesP y 0 8192 = q := ⟨_, rfl⟩
  rw [hq] at HO hbt
  have HQ := Aside0.mk hq
  have HCt := Aside0.mk hCt
  have HLt := Aside0.mk hlt
  obtain ⟨d, n, er⟩ := q
  replace hbt : n ≤ y.length := hbt
  have HYL := Aside0.mk (show y.length < 140737488355328 by omega)
  have HBT := Aside0.mk (show n ≤ l.length by omega)
  clear hr0 hc0 hs hlen hP hml hbt htl hCt hlt hq
  go_enter Try.func92, Try.ntmps92
  go_wp2_with (fail)
  refine (Read_calls A0 c0 y _ HCt.out HLt.out HYL.out).mono ?_
  rintro e w2 ⟨w1, g, rfl, hI, hB1, hB⟩
  have HB1 := Aside0.mk hB1
  have HI2 := Aside0.mk hI
  have HB2 := Aside0.mk hB
  clear hB1 hI hB
  go_wp2_with (fail)
  refine (Bytes_calls g y 0 8192 (by omega) w1 _ HI2.out HB2.out HSy.out HYL.out (Nat.zero_le _)).mono ?_
  rintro e w3 ⟨v, rfl, hR, hI, hB, hK⟩
  rw [HQ.out] at hR hI
  have HR := Aside0.mk hR
  have HI := Aside0.mk hI
  have HB := Aside0.mk hB
  have HK := Aside0.mk hK
  have HE := Aside0.mk (show wire_Reader_Err.f y (n : Int) er true = some (er, (n : Int), er, true) from rfl)
  have HZ2 := Aside0.mk (below_step HB1.out HB2.out).size
  clear hR hI hB hK HI2 HB2 HQ
  go_wp2_with (fail)
  refine (wire_Reader_Err.calls g y _ _ _ _ _ _ _ w1 _ HI.out HB.out HE.out).mono ?_
  rintro e w4 ⟨rfl, hI, hB, hK⟩
  have HI4 := Aside0.mk hI
  have HBW := Aside0.mk (below_step HB1.out hB)
  have HR4 := Aside0.mk (Kd.R_mono (ok' := fun _ => True) (Kd.R_lower (Kd.R_keep HR.out hK (fun k hk => hk)) HZ2.out) (fun _ _ => trivial))
  clear hI hB hK HR HI HB HK HB1 HE
  by_cases c0 : er = 0
  · subst c0
    have HN := Aside0.mk HBT.out
    obtain ⟨AS, cS, HG, hg, HSx⟩ := HI4.out
    have hc_1 := cellS62_1 HG
    clear HG hg HSx
    have hw1 : wrap64 ((l.length : Int) - (n : Int)) = (l.length : Int) - (n : Int) := by have h1 := HLN.out; have h2 := HBT.out; unfold wrap64; omega
    by_cases c1 : l.length < n + 4
    · have hP : P = ([], 0, 2) := by have h := HO.out; simp only [ne_eq, not_true_eq_false, if_false] at h; rw [if_pos c1] at h; exact h
      subst hP
      have c1b : decide ((l.length : Int) - (n : Int) < 4) = true := decide_eq_true (by clear hw1; omega)
      have HC1 := Aside0.mk c1
      clear c1
      go_wp2_with (fail)
      go_ret3
      exact ⟨_, rfl, Kd.R_nil _ _ _ _ _, HBW.out⟩
    · have hO2 : P = if fourP (sumP (l.take n)) = (l.drop n).take 4 then (d, n + 4, 0) else ([], 0, 11) := by have h := HO.out; simp only [ne_eq, not_true_eq_false, if_false] at h; rw [if_neg c1] at h; exact h
      have HO2 := Aside0.mk hO2
      have c1b : decide ((l.length : Int) - (n : Int) < 4) = false := decide_eq_false (by clear hw1; omega)
      have HC1 := Aside0.mk c1
      obtain ⟨hcut2, hCs, hls⟩ := cut_take A0 c0 l n HR0.out HC0.out HBT.out
      have HSUM := Aside0.mk (Sum_eq (l.take n) (Bs.take HS.out n) (by rw [List.length_take]; have := HLN.out; clear hw1; omega) (10 * (l.take n).length + 1) (Nat.lt_succ_self _))
      have HCs := Aside0.mk (Kd.C_below hCs HBW.out)
      have HLs := Aside0.mk hls
      clear c1 hO2 hCs hls HO
      generalize l.take n = ys at *
      go_wp2_with (fail)
      refine (wire_Sum.calls _ A0 c0 ys _ _ HCs.out HLs.out HSUM.out).mono ?_
      rintro e w5 ⟨rfl, ⟨nd, rfl⟩⟩
      clear hc_1 hcut2
      go_wp2_with (fail)
      refine (wire_four.calls (sumP ys) (fourP (sumP ys)) _ rfl).mono ?_
      rintro e w6 ⟨v4, rfl, h4, hb⟩
      have HB6 := Aside0.mk (below_step (pw_below_drewN HBW.out nd) hb)
      have HR6 := Aside0.mk (Kd.R_below (Kd.R_drewN HR4.out nd) hb)
      obtain ⟨A4, c4, hv4⟩ := Kd.R_slice h4
      subst hv4
      have H4 := Aside0.mk h4
      have hx4 : (fourP (sumP ys)).length = 4 := rfl
      clear h4 hb HBW HR4 HSUM HCs HLs
      generalize fourP (sumP ys) = x4 at *
      have HX4 := Aside0.mk hx4
      go_wp2_with (fail)
      go_loopw [41] (fun v41 wr => ∃ j : Nat, j ≤ 4 ∧ v41 = .int .i64 (j : Int) ∧ Aside0 (∀ i, i < j → rd l ((n + i : Nat) : Int) = rd x4 (i : Int)) ∧ Aside0 (Below w6.heap.size w6 wr)) (fun v41 _ => (4 - intOf v41).toNat)
      case atStart => exact ⟨0, by omega, rfl, ⟨fun i hi => absurd hi (Nat.not_lt_zero _)⟩, ⟨Below.refl _ _⟩⟩
      case round =>
        obtain ⟨j, hj, rfl, HF, HB⟩ := hrel
        have hjl : x4.length = 4 := hx4
        by_cases hlt : j < 4
        · obtain ⟨p, hp⟩ : ∃ p : Nat, n + j = p := ⟨_, rfl⟩
          have hpl : p < l.length := by have := HC1.out; omega
          have hj4 : j < x4.length := by omega
          obtain ⟨ad, e0, hx⟩ := Kd.at_int HR0.out (p : Int) (by omega) (by omega)
          cases e0
          obtain ⟨ad4, e4, hy⟩ := Kd.at_int (Kd.R_reads' H4.out).2.2 (j : Int) (by omega) (by omega)
          cases e4
          have HWR := Aside0.mk (below_step HB6.out HB.out)
          replace hx := (HWR.out.cell (World.block_lt_of_cell? _ _ hx)).trans hx
          replace hy := (HB.out.cell (World.block_lt_of_cell? _ _ hy)).trans hy
          rw [Int.toNat_natCast] at hx hy
          have hw2 : wrap64 ((n : Int) + (j : Int)) = (p : Int) := wrap64_sum hp (by have := HLN.out; clear hw1; omega)
          have hw3 : wrap64 ((j : Int) + 1) = ((j + 1 : Nat) : Int) := by clear hw1 hw2; unfold wrap64; omega
          have HFJ := Aside0.mk (show ∀ b : Int, rd l (p : Int) = b → rd x4 (j : Int) = b → ∀ i, i < j + 1 → rd l ((n + i : Nat) : Int) = rd x4 (i : Int) from fun b h1 h2 i hi => by
            rcases Nat.lt_or_ge i j with h | h
            · exact HF.out i h
            · obtain rfl : i = j := by omega
              rw [hp, h1, h2])
          have HNE := Aside0.mk (show rd l (p : Int) ≠ rd x4 (j : Int) → x4 ≠ (l.drop n).take 4 from fun h => four_not (i := j) HX4.out (by have := HC1.out; clear hw1 hw2 hw3; omega) hlt (by rw [hp]; exact h))
          have HP := Aside0.mk hp
          have HLT := Aside0.mk hlt
          clear hp hlt
          generalize rd l (p : Int) = b1 at *
          generalize rd x4 (j : Int) = b2 at *
          by_cases hb : b1 = b2
          · subst hb
            have hbb : (b1 != b1) = false := by simp
            go_wp2
            go_roundw
            case rel => exact ⟨j + 1, HLT.out, rfl, ⟨HFJ.out b1 rfl rfl⟩, HB⟩
            case measure => simp [intOf]; have := HLT.out; clear hw1 hw2 hw3; omega
          · have hbb : (b1 != b2) = true := bne_iff_ne.mpr hb
            have hP : P = ([], 0, 11) := by rw [HO2.out, if_neg (HNE.out hb)]
            subst hP
            clear hb
            go_wp2
            go_ret3
            exact ⟨_, rfl, Kd.R_nil _ _ _ _ _, HWR.out⟩
        · obtain rfl : j = 4 := by omega
          have hP : P = (d, n + 4, 0) := by rw [HO2.out, if_pos (four_all HX4.out (by have := HC1.out; clear hw1; omega) HF.out)]
          subst hP
          have hw2 : wrap64 ((n : Int) + 4) = ((n + 4 : Nat) : Int) := by have h1 := HLN.out; have h2 := HBT.out; clear hw1; unfold wrap64; omega
          have HWR := Aside0.mk (below_step HB6.out HB.out)
          go_wp2
          go_ret3
          exact ⟨_, rfl, Kd.R_below HR6.out HB.out, HWR.out⟩
  · have hP : P = ([], 0, er) := by have h := HO.out; rw [if_pos c0] at h; exact h
    subst hP
    have c0b : (er != 0) = true := bne_iff_ne.mpr c0
    go_wp2_with (fail)
    go_ret3
    exact ⟨_, rfl, Kd.R_nil _ _ _ _ _, HBW.out⟩
end Go.Proofs.Ytehjbhnlbjbhfaa.Wire
-- PlainT
namespace Go.Proofs.Ytehjbhnlbjbhfaa.Wire
open Go Go.RowKit
set_option linter.unusedVariables false
theorem u64w (n : Int) : IntKind.u64.wrap n = n % 18446744073709551616 := by simp [IntKind.wrap, IntKind.bits, IntKind.signed]
theorem wf_u8 {a : Int} (h : (Lit.int .u8 a).wf = true) : 0 ≤ a ∧ a < 256 := by
  simp only [Lit.wf, Bool.and_eq_true, decide_eq_true_eq] at h
  rw [show IntKind.u8.min = 0 from by decide, show IntKind.u8.max = 255 from by decide] at h
  omega
end Go.Proofs.Ytehjbhnlbjbhfaa.Wire
