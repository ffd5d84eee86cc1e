/- The document's disk in the machine's memory: its block, its texts; the plain disk beside it is the given one's. -/
import Derived.Test.YtehjbhnlbjbhfaaDkO
import Derived.Laws.IdiomStrings
namespace Go.Proofs.Ytehjbhnlbjbhfaa.Rd
open Go Go.RowKit Go.Proofs.YtehjbhnlbjbhfaaW.PrintWords Go.Proofs.YtehjbhnlbjbhfaaW.PrintLast Go.Proofs.YtehjbhnlbjbhfaaW.PrintMore Go.Proofs.Ytehjbhnlbjbhfaa.Dk
attribute [local go_sem] max2_int min2_int max_two min_two
set_option linter.unusedVariables false
set_option linter.unusedSimpArgs false
structure XF where
  told : ByteArray
  lasts : ByteArray
  cl : Bool
structure XV where
  fs : List XF
  room : Int
  off : Bool
  fuse : Int
  kv : Value
def XF.cells (f : XF) : List Value := [.string f.told, .string f.lasts, .bool f.cl]
def XV.cells (d : XV) : List Value := d.fs.flatMap XF.cells ++ [.int .i64 d.room, .bool d.off, .int .i64 d.fuse, d.kv]
def toXF (f : Fl) : XF := ⟨strOfNums f.seen, strOfNums f.lasts, f.cl⟩
def XV.f (d : XV) (i : Nat) : XF := d.fs.getD i (toXF nf)
def AtX (W : World) (x : Nat) (d : XV) : Prop := d.fs.length = 8 ∧ W.heap[x]? = some (.cells d.cells.toArray 107 (0, 0))
def fuseP (s : DS) : Int := if s.set = true then s.left else 0
def toXV (s : DS) (kv : Value) : XV := ⟨s.fs.map toXF, s.room, s.off, fuseP s, kv⟩
theorem toXV_f {s : DS} (h : s.fs.length = 8) {i : Nat} (hi : i < 8) (kv : Value) : (toXV s kv).f i = toXF (fl s i) := by
  unfold XV.f toXV fl
  rw [List.getD_eq_getElem?_getD, List.getD_eq_getElem?_getD, List.getElem?_map, List.getElem?_eq_getElem (by omega)]; rfl
section
variable {W : World} {x : Nat} {d : XV}
theorem AtX.cell (h : AtX W x d) (i : Nat) : W.cell? ⟨x, i, none⟩ = d.cells[i]? := by rw [blk_cell h.2 i]; simp
theorem AtX.frozen (h : AtX W x d) (i : Nat) : W.frozen? ⟨x, i, none⟩ = false := blk_frozen h.2 i
theorem AtX.c24 (h : AtX W x d) : W.cell? ⟨x, 24, none⟩ = some (.int .i64 d.room) := by
  rw [h.cell 24]; obtain ⟨a0, a1, a2, a3, a4, a5, a6, a7, e⟩ := eight h.1; unfold XV.cells; rw [e]; rfl
theorem AtX.c25 (h : AtX W x d) : W.cell? ⟨x, 25, none⟩ = some (.bool d.off) := by
  rw [h.cell 25]; obtain ⟨a0, a1, a2, a3, a4, a5, a6, a7, e⟩ := eight h.1; unfold XV.cells; rw [e]; rfl
theorem AtX.c26 (h : AtX W x d) : W.cell? ⟨x, 26, none⟩ = some (.int .i64 d.fuse) := by
  rw [h.cell 26]; obtain ⟨a0, a1, a2, a3, a4, a5, a6, a7, e⟩ := eight h.1; unfold XV.cells; rw [e]; rfl
theorem AtX.c27 (h : AtX W x d) : W.cell? ⟨x, 27, none⟩ = some d.kv := by
  rw [h.cell 27]; obtain ⟨a0, a1, a2, a3, a4, a5, a6, a7, e⟩ := eight h.1; unfold XV.cells; rw [e]; rfl
theorem AtX.told (h : AtX W x d) {i : Nat} (hi : i < 8) : W.cell? ⟨x, i * 3, none⟩ = some (.string (d.f i).told) := by
  rw [h.cell]; obtain ⟨a0, a1, a2, a3, a4, a5, a6, a7, e⟩ := eight h.1; unfold XV.cells XV.f; rw [e]
  rcases below8 hi with rfl | rfl | rfl | rfl | rfl | rfl | rfl | rfl <;> rfl
theorem AtX.lasts (h : AtX W x d) {i : Nat} (hi : i < 8) : W.cell? ⟨x, i * 3 + 1, none⟩ = some (.string (d.f i).lasts) := by
  rw [h.cell]; obtain ⟨a0, a1, a2, a3, a4, a5, a6, a7, e⟩ := eight h.1; unfold XV.cells XV.f; rw [e]
  rcases below8 hi with rfl | rfl | rfl | rfl | rfl | rfl | rfl | rfl <;> rfl
theorem AtX.cl (h : AtX W x d) {i : Nat} (hi : i < 8) : W.cell? ⟨x, i * 3 + 2, none⟩ = some (.bool (d.f i).cl) := by
  rw [h.cell]; obtain ⟨a0, a1, a2, a3, a4, a5, a6, a7, e⟩ := eight h.1; unfold XV.cells XV.f; rw [e]
  rcases below8 hi with rfl | rfl | rfl | rfl | rfl | rfl | rfl | rfl <;> rfl
theorem AtX.lt (h : AtX W x d) : x < W.heap.size := blk_lt h.2
theorem AtX.same (h : AtX W x d) {W' : World} (he : W'.heap[x]? = W.heap[x]?) : AtX W' x d := ⟨h.1, he.trans h.2⟩
theorem AtX.put (h : AtX W x d) {d' : XV} (hl : d'.fs.length = 8) (i : Nat) (u : Value) (e : d.cells.toArray.setIfInBounds i u = d'.cells.toArray) : AtX (W.setCell ⟨x, i, none⟩ u) x d' := ⟨hl, e ▸ blk_set h.2 i u⟩
theorem AtX.set25 (h : AtX W x d) (b : Bool) : AtX (W.setCell ⟨x, 25, none⟩ (.bool b)) x { d with off := b } := by
  refine h.put (d' := { d with off := b }) h.1 25 _ ?_
  obtain ⟨a0, a1, a2, a3, a4, a5, a6, a7, e⟩ := eight h.1; unfold XV.cells; simp only [e]; rfl
theorem AtX.set26 (h : AtX W x d) (n : Int) : AtX (W.setCell ⟨x, 26, none⟩ (.int .i64 n)) x { d with fuse := n } := by
  refine h.put (d' := { d with fuse := n }) h.1 26 _ ?_
  obtain ⟨a0, a1, a2, a3, a4, a5, a6, a7, e⟩ := eight h.1; unfold XV.cells; simp only [e]; rfl
theorem AtX.set27 (h : AtX W x d) (v : Value) : AtX (W.setCell ⟨x, 27, none⟩ v) x { d with kv := v } := by
  refine h.put (d' := { d with kv := v }) h.1 27 _ ?_
  obtain ⟨a0, a1, a2, a3, a4, a5, a6, a7, e⟩ := eight h.1; unfold XV.cells; simp only [e]; rfl
theorem AtX.setT (h : AtX W x d) {i : Nat} (hi : i < 8) (b : ByteArray) : AtX (W.setCell ⟨x, i * 3, none⟩ (.string b)) x { d with fs := d.fs.set i ⟨b, (d.f i).lasts, (d.f i).cl⟩ } := by
  refine h.put (by simp [h.1]) _ _ ?_
  obtain ⟨a0, a1, a2, a3, a4, a5, a6, a7, e⟩ := eight h.1; unfold XV.cells XV.f; simp only [e]
  rcases below8 hi with rfl | rfl | rfl | rfl | rfl | rfl | rfl | rfl <;> rfl
theorem AtX.setL (h : AtX W x d) {i : Nat} (hi : i < 8) (b : ByteArray) : AtX (W.setCell ⟨x, i * 3 + 1, none⟩ (.string b)) x { d with fs := d.fs.set i ⟨(d.f i).told, b, (d.f i).cl⟩ } := by
  refine h.put (by simp [h.1]) _ _ ?_
  obtain ⟨a0, a1, a2, a3, a4, a5, a6, a7, e⟩ := eight h.1; unfold XV.cells XV.f; simp only [e]
  rcases below8 hi with rfl | rfl | rfl | rfl | rfl | rfl | rfl | rfl <;> rfl
theorem AtX.setC (h : AtX W x d) {i : Nat} (hi : i < 8) (b : Bool) : AtX (W.setCell ⟨x, i * 3 + 2, none⟩ (.bool b)) x { d with fs := d.fs.set i ⟨(d.f i).told, (d.f i).lasts, b⟩ } := by
  refine h.put (by simp [h.1]) _ _ ?_
  obtain ⟨a0, a1, a2, a3, a4, a5, a6, a7, e⟩ := eight h.1; unfold XV.cells XV.f; simp only [e]
  rcases below8 hi with rfl | rfl | rfl | rfl | rfl | rfl | rfl | rfl <;> rfl
theorem XV.f_set (d : XV) (h : d.fs.length = 8) {i : Nat} (hi : i < 8) (f : XF) : XV.f { d with fs := d.fs.set i f } i = f := by
  unfold XV.f; rw [List.getD_eq_getElem?_getD, List.getElem?_set_self (by rw [h]; exact hi)]; rfl
end
section
variable {W : World} {x : Nat} {s : DS} {kv : Value}
theorem len_of (h : AtX W x (toXV s kv)) : s.fs.length = 8 := by have := h.1; unfold toXV at this; simpa using this
theorem toXV_set (s : DS) (kv : Value) (i : Nat) (f : Fl) : ({ toXV s kv with fs := (toXV s kv).fs.set i (toXF f) } : XV) = toXV (setF s i f) kv := by
  unfold toXV setF fuseP
  simp only [List.map_set]
/-- The told bytes of a file are others. -/
theorem AtX.tell (h : AtX W x (toXV s kv)) {i : Nat} (hi : i < 8) (l : List Int) : AtX (W.setCell ⟨x, i * 3, none⟩ (.string (strOfNums l))) x (toXV (setF s i ⟨l, (fl s i).lasts, (fl s i).cl⟩) kv) := by
  have h2 := h.setT hi (strOfNums l)
  rw [toXV_f (len_of h) hi] at h2
  rw [← toXV_set]; exact h2
theorem AtX.last (h : AtX W x (toXV s kv)) {i : Nat} (hi : i < 8) (l : List Int) : AtX (W.setCell ⟨x, i * 3 + 1, none⟩ (.string (strOfNums l))) x (toXV (setF s i ⟨(fl s i).seen, l, (fl s i).cl⟩) kv) := by
  have h2 := h.setL hi (strOfNums l)
  rw [toXV_f (len_of h) hi] at h2
  rw [← toXV_set]; exact h2
theorem AtX.clear (h : AtX W x (toXV s kv)) {i : Nat} (hi : i < 8) (b : Bool) : AtX (W.setCell ⟨x, i * 3 + 2, none⟩ (.bool b)) x (toXV (setF s i ⟨(fl s i).seen, (fl s i).lasts, b⟩) kv) := by
  have h2 := h.setC hi b
  rw [toXV_f (len_of h) hi] at h2
  rw [← toXV_set]; exact h2
theorem fl_set (s : DS) (h : s.fs.length = 8) {i : Nat} (hi : i < 8) (f : Fl) : fl (setF s i f) i = f := by rw [fl_setF s h hi, if_pos rfl]
theorem set_set (s : DS) (i : Nat) (f f' : Fl) : setF (setF s i f) i f' = setF s i f' := by unfold setF; simp only [List.set_set]
theorem AtX.whole (h : AtX W x (toXV s kv)) {i : Nat} (hi : i < 8) (a b : List Int) (c : Bool) : AtX (((W.setCell ⟨x, i * 3, none⟩ (.string (strOfNums a))).setCell ⟨x, i * 3 + 1, none⟩ (.string (strOfNums b))).setCell ⟨x, i * 3 + 2, none⟩ (.bool c)) x (toXV (setF s i ⟨a, b, c⟩) kv) := by
  have hl := len_of h
  have h1 := h.tell hi a
  have h2 := h1.last hi b
  have h3 := h2.clear hi c
  have l1 := len_of h1
  have l2 := len_of h2
  rw [fl_set _ l1 hi, fl_set _ hl hi, set_set, set_set] at h3
  exact h3
end
/-- The document's disk at block x. -/
structure IsX (G : Nat → Prop) (W : World) (x : Nat) (s : DS) : Prop where
  lt : ∀ b, G b → b < W.heap.size
  gg : G x
  ex : ∃ kv, AtX W x (toXV s kv) ∧ Rw G .i64 W kv s.keep
theorem IsX.len {G : Nat → Prop} {W : World} {x : Nat} {s : DS} (h : IsX G W x s) : s.fs.length = 8 := by obtain ⟨_, _, kv, hA, _⟩ := h; exact len_of hA
theorem IsX.other {G : Nat → Prop} {x g' : Nat} {W W' : World} {s : DS} (h : IsX G W x s) (hw : Wr g' W W') (hg : G g') (hne : x ≠ g') : IsX G W' x s := by
  obtain ⟨h1, h2, kv, hA, hR⟩ := h
  exact ⟨fun b hb => Nat.lt_of_lt_of_le (h1 b hb) hw.size, h2, kv, hA.same (hw.block x (h1 x h2) hne), hR.wr hw hg⟩
theorem IsX.below {G : Nat → Prop} {x : Nat} {W W' : World} {s : DS} (h : IsX G W x s) (hw : Below W.heap.size W W') : IsX G W' x s := by
  obtain ⟨h1, h2, kv, hA, hR⟩ := h
  exact ⟨fun b hb => Nat.lt_of_lt_of_le (h1 b hb) hw.size, h2, kv, hA.same (hw.block x (h1 x h2)), hR.wr (Wr.of_below hw) h2⟩
theorem IsX.drew {G : Nat → Prop} {x : Nat} {W W' : World} {s : DS} (h : IsX G W x s) (hw : Drawn0 W W') : IsX G W' x s := h.below hw.below
theorem IsX.grow {G G' : Nat → Prop} {x : Nat} {W : World} {s : DS} (h : IsX G W x s) (hlt : ∀ k, G' k → k < W.heap.size) (hg : G' x) (hs : ∀ k, k < W.heap.size → G' k → G k) : IsX G' W x s := by
  obtain ⟨_, _, kv, hA, hR⟩ := h
  exact ⟨hlt, hg, kv, hA, hR.grow hs⟩
def mayP (s : DS) (i : Int) : Int := if s.off = true then 50 else if i < 0 ∨ 8 ≤ i then 51 else 0
theorem may_able {s : DS} (h : s.room ≠ 0) (i : Int) : ableP s i = mayP s i := by unfold ableP mayP; rw [if_neg h]
set_option maxHeartbeats 2000000 in
theorem may_calls (G : Nat → Prop) (x : Nat) (s : DS) (i : Int) (w : World) (h : IsX G w x s) : Calls Try.prog 59 #[.pointer (some ⟨x, 0, none⟩), .int .i64 i] w fun e w' => e = .returned (.int .i64 (mayP s i)) ∧ Drawn0 w w' := by
  obtain ⟨_, _, kv, hA, hR⟩ := h
  have hc25 := hA.c25
  have HAB := Aside0.mk (show mayP s i = if s.off = true then 50 else if i < 0 ∨ 8 ≤ i then 51 else 0 from rfl)
  replace hc25 : w.cell? ⟨x, 25, none⟩ = some (.bool s.off) := hc25
  clear hA hR
  rw [HAB.out]
  by_cases c2 : s.off = true
  · rw [if_pos c2]
    rw [c2] at hc25
    clear c2 HAB
    go_enter Try.func59, Try.ntmps59
    go_wp2
    go_ret
    exact ⟨rfl, Drawn0.refl _⟩
  · rw [if_neg c2]
    have c2' : s.off = false := by simpa using c2
    rw [c2'] at hc25
    clear c2 c2' HAB
    by_cases c3 : i < 0
    · rw [if_pos (.inl c3)]
      have d3 : decide (i < 0) = true := decide_eq_true c3
      go_enter Try.func59, Try.ntmps59
      go_wp2
      go_ret
      exact ⟨rfl, Drawn0.refl _⟩
    · have d3 : decide (i < 0) = false := decide_eq_false c3
      by_cases c4 : 8 ≤ i
      · rw [if_pos (.inr c4)]
        have d4 : decide (7 < i) = true := decide_eq_true (by omega)
        go_enter Try.func59, Try.ntmps59
        go_wp2
        go_ret
        exact ⟨rfl, Drawn0.refl _⟩
      · rw [if_neg (by omega)]
        have d4 : decide (7 < i) = false := decide_eq_false (by omega)
        go_enter Try.func59, Try.ntmps59
        go_wp2
        go_ret
        exact ⟨rfl, Drawn0.refl _⟩
theorem may_cases (s : DS) (i : Int) : (mayP s i ≠ 0) ∨ (mayP s i = 0 ∧ ∃ j : Nat, j < 8 ∧ i = (j : Int) ∧ s.off = false) := by
  unfold mayP
  by_cases c2 : s.off = true
  · rw [if_pos c2]; exact .inl (by decide)
  · rw [if_neg c2]
    by_cases c3 : i < 0 ∨ 8 ≤ i
    · rw [if_pos c3]; exact .inl (by decide)
    · rw [if_neg c3]; exact .inr ⟨rfl, i.toNat, by omega, by omega, by simpa using c2⟩
set_option maxHeartbeats 2000000 in
theorem burn_calls (G : Nat → Prop) (x : Nat) (s : DS) (n : Nat) (w : World) (h : IsX G w x s) (hok : Ok s) (hn : n < 1000000000) : Calls Try.prog 66 #[.pointer (some ⟨x, 0, none⟩), .int .i64 (n : Int)] w fun e w' => e = .returned (.tuple #[.int .i64 ((burnN s n : Nat) : Int), .bool (struckP s n)]) ∧ IsX G w' x (burnS s n) ∧ Wr x w w' := by
  have H := Aside0.mk h
  obtain ⟨_, _, kv, hA, hR⟩ := h
  have hc : w.cell? ⟨x, 26, none⟩ = some (.int .i64 (fuseP s)) := hA.c26
  have hf := hA.frozen 26
  have HA := Aside0.mk hA
  have HR := Aside0.mk hR
  have hfu := hok.fuse
  clear hA hR hok
  by_cases c : s.set = true
  · have hfu2 := hfu c
    have HS := Aside0.mk c
    rw [show fuseP s = s.left from if_pos c] at hc
    obtain ⟨q, hq⟩ : ∃ q, s.left = q := ⟨_, rfl⟩
    have HQ := Aside0.mk hq
    rw [hq] at hc hfu2
    have d0 : (q == (0 : Int)) = false := by simp; omega
    clear hfu c hq
    by_cases c2 : q ≤ (n : Int)
    · have d1 : decide (q ≤ (n : Int)) = true := decide_eq_true c2
      have HE1 := Aside0.mk (show ((burnN s n : Nat) : Int) = q by unfold burnN; rw [if_pos ⟨HS.out, by rw [HQ.out]; exact c2⟩, HQ.out]; omega)
      have HE2 := Aside0.mk (show struckP s n = true by unfold struckP; rw [HS.out, HQ.out, d1]; rfl)
      have HE3 := Aside0.mk (show burnS s n = s by unfold burnS; rw [if_neg (fun h => by rw [HQ.out] at h; omega)])
      rw [HE1.out, HE2.out, HE3.out]
      go_enter Try.func66, Try.ntmps66
      go_wp2
      go_ret2
      exact ⟨rfl, H.out, Wr.refl _ _⟩
    · have d1 : decide (q ≤ (n : Int)) = false := decide_eq_false c2
      have HE1 := Aside0.mk (show burnN s n = n by unfold burnN; rw [if_neg (fun h => c2 (by rw [HQ.out] at h; exact h.2))])
      have HE2 := Aside0.mk (show struckP s n = false by unfold struckP; rw [HQ.out, d1, Bool.and_false])
      have HE3 := Aside0.mk (show burnS s n = { s with left := q - (n : Int) } by unfold burnS; rw [if_pos ⟨HS.out, by rw [HQ.out]; omega⟩, HQ.out])
      rw [HE1.out, HE2.out, HE3.out]
      go_enter Try.func66, Try.ntmps66
      go_wp2
      go_ret2
      have hx := HA.out.set26 (q - (n : Int))
      have hw := (Wr.refl x w).set 26 (.int .i64 (q - (n : Int)))
      refine ⟨rfl, ⟨fun b hb => Nat.lt_of_lt_of_le (H.out.lt b hb) hw.size, H.out.gg, kv, ?_, HR.out.wr hw H.out.gg⟩, hw⟩
      have : ({ toXV s kv with fuse := q - (n : Int) } : XV) = toXV { s with left := q - (n : Int) } kv := by
        show (⟨s.fs.map toXF, s.room, s.off, q - (n : Int), kv⟩ : XV) = ⟨s.fs.map toXF, s.room, s.off, (if s.set = true then q - (n : Int) else 0), kv⟩
        rw [if_pos HS.out]
      rw [← this]; exact hx
  · rw [show fuseP s = 0 from if_neg c] at hc
    have c' : s.set = false := by simpa using c
    have HE1 := Aside0.mk (show burnN s n = n by unfold burnN; rw [if_neg (fun h => c h.1)])
    have HE2 := Aside0.mk (show struckP s n = false by unfold struckP; rw [c', Bool.false_and])
    have HE3 := Aside0.mk (show burnS s n = s by unfold burnS; rw [if_neg (fun h => c h.1)])
    rw [HE1.out, HE2.out, HE3.out]
    clear c c' hfu
    go_enter Try.func66, Try.ntmps66
    go_wp2
    go_ret2
    exact ⟨rfl, H.out, Wr.refl _ _⟩
set_option maxHeartbeats 8000000 in
set_option maxRecDepth 100000 in
theorem RNew_calls (room : Int) (w : World) (h1 : 1 ≤ room) (h2 : room ≤ 4194304) : Calls Try.prog 11 #[.int .i64 room] w fun e w' => ∃ b, e = .returned (.tuple #[.pointer (some ⟨b, 0, none⟩), .int .i64 0]) ∧ w.heap.size ≤ b ∧ b < w'.heap.size ∧ Below w.heap.size w w' ∧ ∀ G : Nat → Prop, (∀ k, G k → k < w'.heap.size) → G b → IsX G w' b (newP room) := by
  have d1 : decide (room < 1) = false := decide_eq_false (by omega)
  have d2 : decide (4194304 < room) = false := decide_eq_false (by omega)
  clear h1 h2
  go_enter Try.func11, Try.ntmps11
  go_wp2
  go_ret2
  refine ⟨w.heap.size, rfl, Nat.le_refl _, by simp, below_alloc (Below.refl _ _) _, fun G hG hb => ⟨hG, hb, .slice none 0 0, ⟨rfl, ?_⟩, Rw.nil _ _ _⟩⟩
  exact blk_new w _
theorem RNew_bad (room : Int) (w : World) (h : room < 1 ∨ 4194304 < room) : Calls Try.prog 11 #[.int .i64 room] w fun e w' => e = .returned (.tuple #[.pointer none, .int .i64 1]) ∧ w = w' := by
  by_cases c : room < 1
  · have d1 : decide (room < 1) = true := decide_eq_true c
    clear h
    go_enter Try.func11, Try.ntmps11
    go_wp2
    go_ret2
    exact ⟨rfl, rfl⟩
  · have d1 : decide (room < 1) = false := decide_eq_false c
    have d2 : decide (4194304 < room) = true := decide_eq_true (by omega)
    clear h
    go_enter Try.func11, Try.ntmps11
    go_wp2
    go_ret2
    exact ⟨rfl, rfl⟩
end Go.Proofs.Ytehjbhnlbjbhfaa.Rd
