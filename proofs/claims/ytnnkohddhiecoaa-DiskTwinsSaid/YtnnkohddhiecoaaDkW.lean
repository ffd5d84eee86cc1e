/- The plain laws: how much is told, what a fuse leaves. -/
import Derived.Test.YtnnkohddhiecoaaDkV
namespace Go.Proofs.Ytnnkohddhiecoaa.Dk
open Go Go.RowKit Go.Proofs.YtnnkohddhiecoaaW.PrintWords Go.Proofs.YtnnkohddhiecoaaW.PrintLast Go.Proofs.YtnnkohddhiecoaaW.PrintMore
open Go.Proofs.Ytnnkohddhiecoaa.PDiskBegins
set_option linter.unusedVariables false
def mx (f : Fl) : Nat := max f.seen.length f.lasts.length
def capP (s : DS) : Nat := (s.fs.map mx).sum
theorem used_cap (s : DS) : usedP s ≤ capP s := by
  unfold usedP capP
  generalize s.fs = l
  induction l with
  | nil => exact Nat.le_refl _
  | cons a l ih =>
    rw [List.map_cons, List.map_cons, List.sum_cons, List.sum_cons]
    have : a.seen.length ≤ mx a := Nat.le_max_left _ _
    omega
theorem sum_set (l : List Fl) (i : Nat) (a : Fl) (d : Nat) (h : mx a ≤ mx (l.getD i nf) + d) : ((l.set i a).map mx).sum ≤ (l.map mx).sum + d := by
  induction l generalizing i with
  | nil => simp
  | cons b l ih =>
    cases i with
    | zero => simp at h ⊢; omega
    | succ i =>
      have := ih i (by simpa using h)
      simp at this ⊢; omega
theorem mx_after (f : Fl) (k : Int) : mx (afterP f k) ≤ mx f := by
  unfold afterP mx
  split
  · split
    · simp only [List.length_take]; omega
    · simp only [List.length_take]; omega
  · simp only; omega
theorem cap_fall (s : DS) (keep : List Int) : capP (fallP s keep) ≤ capP s := by
  show ((fallFs keep 0 s.fs).map mx).sum ≤ (s.fs.map mx).sum
  generalize s.fs = l
  generalize 0 = i
  induction l generalizing i with
  | nil => exact Nat.le_refl _
  | cons a l ih =>
    simp only [fallFs, List.map_cons, List.sum_cons]
    have h1 := mx_after a (kv keep i)
    have h2 := ih (i + 1)
    omega
theorem cap_act (s : DS) (n : Nat) (done : DS → Nat → DS) (d : Nat) (h : ∀ s m, capP (done s m) ≤ capP s + d) : capP (actP s n done).1 ≤ capP s + d := by
  have h1 := h (burnS s n) (burnN s n)
  have h2 : capP (burnS s n) = capP s := by unfold capP; rw [(burn_fs s n).1]
  rw [h2] at h1
  unfold actP
  split
  · exact Nat.le_trans (cap_fall _ _) h1
  · exact h1
theorem cap_C (i : Nat) (s : DS) (n : Nat) : capP (doneC i s n) ≤ capP s + 0 := by
  unfold doneC
  split
  · exact sum_set _ _ _ _ (by unfold mx; simp only [fl, List.length_nil]; omega)
  · exact Nat.le_refl _
theorem cap_Y (i : Nat) (s : DS) (n : Nat) : capP (doneY i s n) ≤ capP s + 0 := by
  unfold doneY
  split
  · exact sum_set _ _ _ _ (by unfold mx; simp only [fl]; omega)
  · exact Nat.le_refl _
theorem cap_A (i : Nat) (b : List Int) (s : DS) (n : Nat) : capP (doneA i b s n) ≤ capP s + b.length := by
  unfold doneA
  exact sum_set _ _ _ _ (by unfold mx; simp only [fl, List.length_append, List.length_take]; omega)
theorem cap_append (s : DS) (i : Int) (b : List Int) : capP (appendP s i b).1 ≤ capP s + b.length := by
  unfold appendP
  split
  · exact Nat.le_add_right _ _
  · split
    · exact Nat.le_add_right _ _
    · exact cap_act _ _ _ _ (cap_A _ _)
theorem cap_does (s : DS) (k : Dd) : capP (doesP s k).1 ≤ capP s + k.b.length := by
  unfold doesP
  split
  · unfold clearP; split
    · exact Nat.le_add_right _ _
    · exact Nat.le_trans (cap_act _ _ _ _ (cap_C _)) (Nat.le_add_right _ _)
  · split
    · unfold syncP; split
      · exact Nat.le_add_right _ _
      · exact Nat.le_trans (cap_act _ _ _ _ (cap_Y _)) (Nat.le_add_right _ _)
    · split
      · unfold crashP; split
        · exact Nat.le_add_right _ _
        · exact Nat.le_trans (cap_fall _ _) (Nat.le_add_right _ _)
      · split
        · unfold startP; split <;> exact Nat.le_add_right _ _
        · split
          · unfold armP; split
            · exact Nat.le_add_right _ _
            · split <;> exact Nat.le_add_right _ _
          · exact cap_append _ _ _
theorem cap_go (s : DS) (l : List S35) : capP (goP s l) ≤ capP s + bsum l := by
  induction l generalizing s with
  | nil => exact Nat.le_refl _
  | cons a l ih =>
    have h1 := ih (doesP s (toDd a)).1
    have h2 := cap_does s (toDd a)
    have h3 : bsum (a :: l) = a.f3.length + bsum l := by simp [bsum]
    rw [h3]
    have h4 : (toDd a).b.length = a.f3.length := rfl
    show capP (goP (doesP s (toDd a)).1 l) ≤ _
    omega
theorem used_go (room : Int) (l : List S35) : usedP (goP (newP room) l) ≤ bsum l := by
  have h1 := cap_go (newP room) l
  have h2 : capP (newP room) = 0 := rfl
  have h3 := used_cap (goP (newP room) l)
  omega
theorem used_start (s : DS) : usedP (startP s).1 = usedP s := by unfold startP; split <;> rfl
/-! ### DiskStruck -/
/-- The disk with a fuse. -/
def armed (s : DS) (n : Int) (keep : List Int) : DS := { s with set := true, left := n, keep := keep }
theorem arm_on {s : DS} (hr : s.room ≠ 0) (ho : s.off = false) {n : Int} (hn : 1 ≤ n) (keep : List Int) : armP s n keep = (armed s n keep, 0) := by
  unfold armP
  rw [if_neg (by rw [show (0 : Int) = ((0 : Nat) : Int) from rfl, able_on (by decide) hr ho]; decide), if_neg (by omega)]
  rfl
theorem append_on {s : DS} (hr : s.room ≠ 0) (ho : s.off = false) {i : Nat} (hi : i < 8) (b : List Int) (hu : (usedP s : Int) + (b.length : Int) ≤ s.room) : appendP s (i : Int) b = actP s b.length (doneA i b) := by
  unfold appendP
  rw [if_neg (by rw [able_on hi hr ho]; decide), if_neg (by omega), Int.toNat_natCast]
theorem crash_on {s : DS} (hr : s.room ≠ 0) (ho : s.off = false) (keep : List Int) : crashP s keep = (fallP s keep, 0) := by
  unfold crashP
  rw [if_neg (by rw [show (0 : Int) = ((0 : Nat) : Int) from rfl, able_on (by decide) hr ho]; decide)]
theorem armed_used (s : DS) (n : Int) (keep : List Int) : usedP (armed s n keep) = usedP s := rfl
/-- The fuse is longer than what is written. -/
theorem struck_long {s : DS} (hr : s.room ≠ 0) (ho : s.off = false) {i : Nat} (hi : i < 8) (b : List Int) (hu : (usedP s : Int) + (b.length : Int) ≤ s.room) {n : Nat} (hn : b.length < n) (keep : List Int) :
    appendP (armed s (n : Int) keep) (i : Int) b = (doneA i b (burnS (armed s n keep) b.length) b.length, 0) := by
  rw [append_on (s := armed s n keep) hr ho hi b (by rw [armed_used]; exact hu)]
  unfold actP struckP burnN
  have h1 : (armed s (n : Int) keep).left = (n : Int) := rfl
  have h2 : (armed s (n : Int) keep).set = true := rfl
  rw [h1, h2, if_neg (by simp; omega), if_neg (by omega)]
theorem struck_short {s : DS} (hr : s.room ≠ 0) (ho : s.off = false) {i : Nat} (hi : i < 8) (b : List Int) (hu : (usedP s : Int) + (b.length : Int) ≤ s.room) {n : Nat} (hn : n ≤ b.length) (keep : List Int) :
    appendP (armed s (n : Int) keep) (i : Int) b = (fallP (doneA i b (armed s n keep) n) keep, 50) := by
  rw [append_on (s := armed s n keep) hr ho hi b (by rw [armed_used]; exact hu)]
  unfold actP struckP burnN burnS
  have h1 : (armed s (n : Int) keep).left = (n : Int) := rfl
  have h2 : (armed s (n : Int) keep).set = true := rfl
  rw [h1, h2, if_pos (by simp; omega), if_neg (show ¬ (true = true ∧ (b.length : Int) < (n : Int)) by omega), if_pos (show true = true ∧ (n : Int) ≤ (b.length : Int) from ⟨rfl, by omega⟩), Int.toNat_natCast]
  rfl
theorem same_fall {s t : DS} (h1 : s.fs = t.fs) (h2 : s.room = t.room) (keep : List Int) : fallP s keep = fallP t keep := by
  unfold fallP; rw [h1, h2]
theorem doneA_fs {s t : DS} (h : s.fs = t.fs) (i : Nat) (b c : List Int) (n m : Nat) (hb : b.take n = c.take m) : (doneA i b s n).fs = (doneA i c t m).fs := by
  unfold doneA setF fl
  rw [h, hb]
end Go.Proofs.Ytnnkohddhiecoaa.Dk
