/- Rows laid into arrays of their own; the plain law of DiskBegins. -/
import Derived.Test.YtnnkohddhiecoaaDkX
namespace Go.Proofs.Ytnnkohddhiecoaa.Dk
open Go Go.RowKit Go.Proofs.YtnnkohddhiecoaaW.PrintWords Go.Proofs.YtnnkohddhiecoaaW.PrintLast Go.Proofs.YtnnkohddhiecoaaW.PrintMore
open Go.Proofs.Ytnnkohddhiecoaa.PDiskBegins
set_option linter.unusedVariables false
theorem below_row {n : Nat} {w X : World} (h : Below n w X) {g : Nat} (hg : n ≤ g) (cs : Array Value) : Below n w (X.setRow g cs) :=
  ⟨h.os, h.tape, h.output, by have := h.size; simpa [World.setRow] using this, fun k hk => (setRow_other X g k cs (by omega)).trans (h.block k hk)⟩
theorem put1 (w : World) (z : List Value) (VS : List Value) : Below w.heap.size w ((w.alloc (.cells z.toArray 47)).setRow w.heap.size VS.toArray) ∧ ((w.alloc (.cells z.toArray 47)).setRow w.heap.size VS.toArray).heap[w.heap.size]? = some (.cells VS.toArray 47 (0, 0)) :=
  ⟨below_row (below_alloc (Below.refl _ _) _) (Nat.le_refl _) _, setRow_heap _ _ _ _ 47 (0, 0) (blk_new w (.cells z.toArray 47))⟩
theorem put2 (w : World) (z : List Value) (VS WS : List Value) : Below w.heap.size w ((((w.alloc (.cells z.toArray 47)).alloc (.cells z.toArray 47)).setRow w.heap.size VS.toArray).setRow (w.heap.size + 1) WS.toArray) ∧
    ((((w.alloc (.cells z.toArray 47)).alloc (.cells z.toArray 47)).setRow w.heap.size VS.toArray).setRow (w.heap.size + 1) WS.toArray).heap[w.heap.size]? = some (.cells VS.toArray 47 (0, 0)) ∧
    (((w.alloc (.cells z.toArray 47)).alloc (.cells z.toArray 47)).setRow w.heap.size VS.toArray).heap[w.heap.size + 1]? = some (.cells z.toArray 47 (0, 0)) ∧
    ((((w.alloc (.cells z.toArray 47)).alloc (.cells z.toArray 47)).setRow w.heap.size VS.toArray).setRow (w.heap.size + 1) WS.toArray).heap[w.heap.size + 1]? = some (.cells WS.toArray 47 (0, 0)) := by
  have hsz : (w.alloc (.cells z.toArray 47)).heap.size = w.heap.size + 1 := by simp
  have h0 := blk_alloc (blk_new w (.cells z.toArray 47)) (.cells z.toArray 47)
  have h1 := blk_new (w.alloc (.cells z.toArray 47)) (.cells z.toArray 47)
  rw [hsz] at h1
  have h2 := setRow_heap _ _ _ VS.toArray 47 (0, 0) h0
  have h3 := (setRow_other ((w.alloc (.cells z.toArray 47)).alloc (.cells z.toArray 47)) w.heap.size (w.heap.size + 1) VS.toArray (by omega)).trans h1
  exact ⟨below_row (below_row (below_alloc (below_alloc (Below.refl _ _) _) _) (Nat.le_refl _) _) (Nat.le_succ _) _, (setRow_other _ (w.heap.size + 1) w.heap.size WS.toArray (by omega)).trans h2, h3, setRow_heap _ _ _ WS.toArray 47 (0, 0) h3⟩
theorem FRows.map {G G' : Nat → Prop} {n : Nat} {W W' : World} {VS : List Value} {f : Nat → List Int} (h : FRows G n W VS f) (hm : ∀ v xs, Rw G .u8 W v xs → Rw G' .u8 W' v xs) : FRows G' n W' VS f := fun j hj => hm _ _ (h j hj)
theorem FRows.ones {G : Nat → Prop} {W : World} {VS : List Value} {f : Nat → List Int} (h : FRows G 8 W VS f) (hv : VS.length = 8) : VS.toArray.all (·.oneCell') = true := by
  obtain ⟨a0, a1, a2, a3, a4, a5, a6, a7, e⟩ := eight hv
  subst e
  have o0 : a0.oneCell' = true := (h 0 (by decide)).one_cell
  have o1 : a1.oneCell' = true := (h 1 (by decide)).one_cell
  have o2 : a2.oneCell' = true := (h 2 (by decide)).one_cell
  have o3 : a3.oneCell' = true := (h 3 (by decide)).one_cell
  have o4 : a4.oneCell' = true := (h 4 (by decide)).one_cell
  have o5 : a5.oneCell' = true := (h 5 (by decide)).one_cell
  have o6 : a6.oneCell' = true := (h 6 (by decide)).one_cell
  have o7 : a7.oneCell' = true := (h 7 (by decide)).one_cell
  simp [o0, o1, o2, o3, o4, o5, o6, o7]
/-- What is there behind a crash. -/
def nowP (s : DS) (keep : List Int) (j : Nat) : List Int := (afterP (fl s j) (kv keep j)).seen
theorem filesP_fall {s : DS} (hok : Ok s) (hr : s.room ≠ 0) (keep : List Int) {j : Nat} (hj : j < 8) : filesP (fallP s keep) j = nowP s keep j := by
  rw [filesP_start hj (show (fallP s keep).room ≠ 0 from hr), fl_fall hok.len keep hj]; rfl
theorem now_none (s : DS) {keep : List Int} {j : Nat} (h : kv keep j < 0) : nowP s keep j = nowP s [] j := by
  have h2 : kv [] j < 0 := by unfold kv; rw [if_neg (by simp)]; decide
  unfold nowP afterP
  rw [if_neg (by omega), if_neg (by omega)]
theorem now_some (s : DS) {keep : List Int} {j : Nat} (h : 0 ≤ kv keep j) : hasP (fl s j).seen (nowP s keep j) = true := by
  unfold nowP afterP
  rw [if_pos h]
  split
  · exact hasP_pre ⟨_, (List.take_append_drop _ _).symm⟩
  · exact hasP_pre ⟨_, (List.take_append_drop _ _).symm⟩
end Go.Proofs.Ytnnkohddhiecoaa.Dk
