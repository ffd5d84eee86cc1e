/- A disk in the machine's memory: its block, its rows; the plain disk beside it. -/
import Derived.Test.YtehjbhnlbjbhfaaDkP
namespace Go.Proofs.Ytehjbhnlbjbhfaa.Dk
open Go Go.RowKit Go.Proofs.YtehjbhnlbjbhfaaW.PrintWords Go.Proofs.YtehjbhnlbjbhfaaW.PrintLast Go.Proofs.YtehjbhnlbjbhfaaW.PrintMore
set_option linter.unusedVariables false
/-! ### the plain disk -/
structure Fl where
  seen : List Int
  lasts : List Int
  cl : Bool
structure DS where
  set : Bool
  left : Int
  keep : List Int
  fs : List Fl
  room : Int
  off : Bool
def nf : Fl := ⟨[], [], false⟩
def fl (s : DS) (i : Nat) : Fl := s.fs.getD i nf
def ableP (s : DS) (i : Int) : Int := if s.room = 0 then 6 else if s.off = true then 50 else if i < 0 ∨ 8 ≤ i then 51 else 0
def usedP (s : DS) : Nat := (s.fs.map fun f => f.seen.length).sum
def afterP (f : Fl) (k : Int) : Fl :=
  if 0 ≤ k then (if f.cl = true then ⟨f.seen.take k.toNat, f.seen.take k.toNat, false⟩ else ⟨f.seen.take (f.lasts.length + k.toNat), f.seen.take (f.lasts.length + k.toNat), false⟩)
  else ⟨f.lasts, f.lasts, false⟩
def kv (keep : List Int) (i : Nat) : Int := if i < keep.length then rd keep (i : Int) else -1
def fallFs (keep : List Int) : Nat → List Fl → List Fl
  | _, [] => []
  | i, f :: r => afterP f (kv keep i) :: fallFs keep (i + 1) r
def fallP (s : DS) (keep : List Int) : DS := ⟨false, 0, [], fallFs keep 0 s.fs, s.room, true⟩
def struckP (s : DS) (n : Nat) : Bool := s.set && decide (s.left ≤ (n : Int))
def burnN (s : DS) (n : Nat) : Nat := if s.set = true ∧ s.left ≤ (n : Int) then s.left.toNat else n
def burnS (s : DS) (n : Nat) : DS := if s.set = true ∧ (n : Int) < s.left then { s with left := s.left - n } else s
def setF (s : DS) (i : Nat) (f : Fl) : DS := { s with fs := s.fs.set i f }
/-- What an act leaves: it is burnt, done as far as may be, and the power may go. -/
def actP (s : DS) (n : Nat) (done : DS → Nat → DS) : DS × Int :=
  if struckP s n = true then (fallP (done (burnS s n) (burnN s n)) s.keep, 50) else (done (burnS s n) (burnN s n), 0)
def doneA (i : Nat) (b : List Int) (s : DS) (n : Nat) : DS := setF s i ⟨(fl s i).seen ++ b.take n, (fl s i).lasts, (fl s i).cl⟩
def doneC (i : Nat) (s : DS) (n : Nat) : DS := if n = 1 then setF s i ⟨[], (fl s i).lasts, true⟩ else s
def doneY (i : Nat) (s : DS) (n : Nat) : DS := if n = 1 then setF s i ⟨(fl s i).seen, (fl s i).seen, false⟩ else s
def appendP (s : DS) (i : Int) (b : List Int) : DS × Int :=
  if ableP s i ≠ 0 then (s, ableP s i) else if s.room < (usedP s : Int) + (b.length : Int) then (s, 7) else actP s b.length (doneA i.toNat b)
def clearP (s : DS) (i : Int) : DS × Int := if ableP s i ≠ 0 then (s, ableP s i) else actP s 1 (doneC i.toNat)
def syncP (s : DS) (i : Int) : DS × Int := if ableP s i ≠ 0 then (s, ableP s i) else actP s 1 (doneY i.toNat)
def readP (s : DS) (i : Int) : List Int × Int := if ableP s i ≠ 0 then ([], ableP s i) else ((fl s i.toNat).seen, 0)
def crashP (s : DS) (keep : List Int) : DS × Int := if ableP s 0 ≠ 0 then (s, ableP s 0) else (fallP s keep, 0)
def armP (s : DS) (n : Int) (keep : List Int) : DS × Int := if ableP s 0 ≠ 0 then (s, ableP s 0) else if n < 1 then (s, 1) else ({ s with set := true, left := n, keep := keep }, 0)
def startP (s : DS) : DS × Int := if s.room = 0 then (s, 6) else ({ s with off := false }, 0)
def newP (room : Int) : DS := ⟨false, 0, [], List.replicate 8 nf, room, false⟩
/-- What holds of a disk that calls made. -/
structure Ok (s : DS) : Prop where
  len : s.fs.length = 8
  pre : ∀ f ∈ s.fs, f.cl = false → ∃ t, f.seen = f.lasts ++ t
  big : ∀ f ∈ s.fs, f.lasts.length ≤ 4194304
  told : ∀ f ∈ s.fs, f.seen.length ≤ 4194304
  fuse : s.set = true → 1 ≤ s.left ∧ s.left ≤ 9223372036854775807
  room : 0 ≤ s.room ∧ s.room ≤ 4194304
  keep : s.keep.length < 1000000000
/-! ### the machine's disk -/
structure FV where
  sv : Value
  lv : Value
  cl : Bool
structure DV where
  set : Bool
  left : Int
  kv : Value
  fs : List FV
  room : Int
  off : Bool
def FV.cells (f : FV) : List Value := [f.sv, f.lv, .bool f.cl]
def DV.cells (d : DV) : List Value := [.bool d.set, .int .i64 d.left, d.kv] ++ (d.fs.flatMap FV.cells ++ [.int .i64 d.room, .bool d.off])
def nv : FV := ⟨.slice none 0 0, .slice none 0 0, false⟩
def DV.f (d : DV) (i : Nat) : FV := d.fs.getD i nv
def At (W : World) (g : Nat) (d : DV) : Prop := d.fs.length = 8 ∧ W.heap[g]? = some (.cells d.cells.toArray 64 (0, 0))
theorem eight {α : Type} {l : List α} (h : l.length = 8) : ∃ a0 a1 a2 a3 a4 a5 a6 a7, l = [a0, a1, a2, a3, a4, a5, a6, a7] := by
  match l, h with
  | [a0, a1, a2, a3, a4, a5, a6, a7], _ => exact ⟨a0, a1, a2, a3, a4, a5, a6, a7, rfl⟩
theorem below8 {i : Nat} (h : i < 8) : i = 0 ∨ i = 1 ∨ i = 2 ∨ i = 3 ∨ i = 4 ∨ i = 5 ∨ i = 6 ∨ i = 7 := by omega
section
variable {W : World} {g : Nat} {d : DV}
theorem At.cell (h : At W g d) (i : Nat) : W.cell? ⟨g, i, none⟩ = d.cells[i]? := by
  rw [blk_cell h.2 i]; simp
theorem At.frozen (h : At W g d) (i : Nat) : W.frozen? ⟨g, i, none⟩ = false := blk_frozen h.2 i
theorem At.c0 (h : At W g d) : W.cell? ⟨g, 0, none⟩ = some (.bool d.set) := (h.cell 0).trans rfl
theorem At.c1 (h : At W g d) : W.cell? ⟨g, 1, none⟩ = some (.int .i64 d.left) := (h.cell 1).trans rfl
theorem At.c2 (h : At W g d) : W.cell? ⟨g, 2, none⟩ = some d.kv := (h.cell 2).trans rfl
theorem At.c27 (h : At W g d) : W.cell? ⟨g, 27, none⟩ = some (.int .i64 d.room) := by
  rw [h.cell 27]
  obtain ⟨a0, a1, a2, a3, a4, a5, a6, a7, e⟩ := eight h.1
  unfold DV.cells; rw [e]; rfl
theorem At.c28 (h : At W g d) : W.cell? ⟨g, 28, none⟩ = some (.bool d.off) := by
  rw [h.cell 28]
  obtain ⟨a0, a1, a2, a3, a4, a5, a6, a7, e⟩ := eight h.1
  unfold DV.cells; rw [e]; rfl
theorem At.sv (h : At W g d) {i : Nat} (hi : i < 8) : W.cell? ⟨g, 3 + i * 3, none⟩ = some (d.f i).sv := by
  rw [h.cell]
  obtain ⟨a0, a1, a2, a3, a4, a5, a6, a7, e⟩ := eight h.1
  unfold DV.cells DV.f; rw [e]
  rcases below8 hi with rfl | rfl | rfl | rfl | rfl | rfl | rfl | rfl <;> rfl
theorem At.lv (h : At W g d) {i : Nat} (hi : i < 8) : W.cell? ⟨g, 3 + i * 3 + 1, none⟩ = some (d.f i).lv := by
  rw [h.cell]
  obtain ⟨a0, a1, a2, a3, a4, a5, a6, a7, e⟩ := eight h.1
  unfold DV.cells DV.f; rw [e]
  rcases below8 hi with rfl | rfl | rfl | rfl | rfl | rfl | rfl | rfl <;> rfl
theorem At.cl (h : At W g d) {i : Nat} (hi : i < 8) : W.cell? ⟨g, 3 + i * 3 + 2, none⟩ = some (.bool (d.f i).cl) := by
  rw [h.cell]
  obtain ⟨a0, a1, a2, a3, a4, a5, a6, a7, e⟩ := eight h.1
  unfold DV.cells DV.f; rw [e]
  rcases below8 hi with rfl | rfl | rfl | rfl | rfl | rfl | rfl | rfl <;> rfl
theorem At.lt (h : At W g d) : g < W.heap.size := blk_lt h.2
theorem At.same (h : At W g d) {W' : World} (he : W'.heap[g]? = W.heap[g]?) : At W' g d := ⟨h.1, he.trans h.2⟩
theorem At.put (h : At W g d) {d' : DV} (hl : d'.fs.length = 8) (i : Nat) (u : Value) (e : d.cells.toArray.setIfInBounds i u = d'.cells.toArray) : At (W.setCell ⟨g, i, none⟩ u) g d' := ⟨hl, e ▸ blk_set h.2 i u⟩
theorem At.set0 (h : At W g d) (b : Bool) : At (W.setCell ⟨g, 0, none⟩ (.bool b)) g { d with set := b } := h.put (d' := { d with set := b }) h.1 0 _ (by unfold DV.cells; rfl)
theorem At.set1 (h : At W g d) (x : Int) : At (W.setCell ⟨g, 1, none⟩ (.int .i64 x)) g { d with left := x } := h.put (d' := { d with left := x }) h.1 1 _ (by unfold DV.cells; rfl)
theorem At.set2 (h : At W g d) (v : Value) : At (W.setCell ⟨g, 2, none⟩ v) g { d with kv := v } := h.put (d' := { d with kv := v }) h.1 2 _ (by unfold DV.cells; rfl)
theorem At.set28 (h : At W g d) (b : Bool) : At (W.setCell ⟨g, 28, none⟩ (.bool b)) g { d with off := b } := by
  refine h.put (d' := { d with off := b }) h.1 28 _ ?_
  obtain ⟨a0, a1, a2, a3, a4, a5, a6, a7, e⟩ := eight h.1
  unfold DV.cells; simp only [e]; rfl
theorem At.setS (h : At W g d) {i : Nat} (hi : i < 8) (v : Value) : At (W.setCell ⟨g, 3 + i * 3, none⟩ v) g { d with fs := d.fs.set i ⟨v, (d.f i).lv, (d.f i).cl⟩ } := by
  refine h.put (by simp [h.1]) _ _ ?_
  obtain ⟨a0, a1, a2, a3, a4, a5, a6, a7, e⟩ := eight h.1
  unfold DV.cells DV.f; simp only [e]
  rcases below8 hi with rfl | rfl | rfl | rfl | rfl | rfl | rfl | rfl <;> rfl
theorem At.setL (h : At W g d) {i : Nat} (hi : i < 8) (v : Value) : At (W.setCell ⟨g, 3 + i * 3 + 1, none⟩ v) g { d with fs := d.fs.set i ⟨(d.f i).sv, v, (d.f i).cl⟩ } := by
  refine h.put (by simp [h.1]) _ _ ?_
  obtain ⟨a0, a1, a2, a3, a4, a5, a6, a7, e⟩ := eight h.1
  unfold DV.cells DV.f; simp only [e]
  rcases below8 hi with rfl | rfl | rfl | rfl | rfl | rfl | rfl | rfl <;> rfl
theorem At.setC (h : At W g d) {i : Nat} (hi : i < 8) (b : Bool) : At (W.setCell ⟨g, 3 + i * 3 + 2, none⟩ (.bool b)) g { d with fs := d.fs.set i ⟨(d.f i).sv, (d.f i).lv, b⟩ } := by
  refine h.put (by simp [h.1]) _ _ ?_
  obtain ⟨a0, a1, a2, a3, a4, a5, a6, a7, e⟩ := eight h.1
  unfold DV.cells DV.f; simp only [e]
  rcases below8 hi with rfl | rfl | rfl | rfl | rfl | rfl | rfl | rfl <;> rfl
end
/-- A row that lies in no block of G. -/
def Rw (G : Nat → Prop) (k : IntKind) (W : World) (v : Value) (xs : List Int) : Prop := Kd.V (Kd.int k) 0 W 0 (fun b => ¬ G b) v xs
theorem Rw.nil (G : Nat → Prop) (k : IntKind) (W : World) : Rw G k W (.slice none 0 0) [] := Kd.V_nil _ _ _ _ _
theorem Rw.slice {G : Nat → Prop} {k : IntKind} {W : World} {v : Value} {xs : List Int} (h : Rw G k W v xs) : ∃ A c, v = .slice A xs.length c ∧ xs.length ≤ c ∧ (Kd.int k).C W A xs.length xs := by
  obtain ⟨A, c, rfl⟩ := Kd.V_slice h
  exact ⟨A, c, rfl, (Kd.V_reads' h).2.1, (Kd.V_reads' h).2.2⟩
theorem Rw.step {G : Nat → Prop} {k : IntKind} {W W' : World} {v : Value} {xs : List Int} (h : Rw G k W v xs) (hm : ∀ b, ¬ G b → b < W.heap.size → W'.heap[b]? = W.heap[b]?) : Rw G k W' v xs := Kd.V_step h hm
theorem Rw.grow {G G' : Nat → Prop} {k : IntKind} {W : World} {v : Value} {xs : List Int} (h : Rw G k W v xs) (hg : ∀ b, b < W.heap.size → G' b → G b) : Rw G' k W v xs := Kd.V_mono (Kd.V_bound h) (fun b hb hG => hb.1 (hg b hb.2 hG))
theorem Rw.of_R {G : Nat → Prop} {k : IntKind} {e : Nat} {W W0 : World} {v : Value} {xs : List Int} (h : Kd.R (Kd.int k) e W W0.heap.size (fun _ => True) v xs) (hG : ∀ b, G b → b < W0.heap.size) : Rw G k W v xs :=
  show Kd.V (Kd.int k) e W 0 (fun b => ¬ G b) v xs from Kd.R_V (Kd.R_mono (Kd.R_bound h) (fun b hb hg => by have := hb.2.1; have := hG b hg; omega))
theorem Rw.of_V {G : Nat → Prop} {k : IntKind} {e base : Nat} {W W0 : World} {v : Value} {xs : List Int} (h : Kd.V (Kd.int k) e W base (fun b => W0.heap.size ≤ b) v xs) (hG : ∀ b, G b → b < W0.heap.size) : Rw G k W v xs :=
  Kd.V_mono h (fun b hb hg => by have := hG b hg; omega)
def FR (G : Nat → Prop) (W : World) (v : FV) (f : Fl) : Prop := Rw G .u8 W v.sv f.seen ∧ Rw G .u8 W v.lv f.lasts ∧ v.cl = f.cl
def Rows (G : Nat → Prop) (W : World) (d : DV) (s : DS) : Prop := d.set = s.set ∧ d.left = s.left ∧ Rw G .i64 W d.kv s.keep ∧ d.room = s.room ∧ d.off = s.off ∧ s.fs.length = 8 ∧ ∀ i, i < 8 → FR G W (d.f i) (fl s i)
/-- A disk at block g; its rows lie in no block of G, in which are all blocks that are written. -/
structure IsD (G : Nat → Prop) (W : World) (g : Nat) (s : DS) : Prop where
  lt : ∀ b, G b → b < W.heap.size
  gg : G g
  ex : ∃ d, At W g d ∧ Rows G W d s
/-- Only block g is written. -/
structure Wr (g : Nat) (w w' : World) : Prop where
  os : w'.os = w.os
  tape : w'.tape = w.tape
  output : w'.output = w.output
  size : w.heap.size ≤ w'.heap.size
  block : ∀ i, i < w.heap.size → i ≠ g → w'.heap[i]? = w.heap[i]?
theorem Wr.refl (g : Nat) (w : World) : Wr g w w := ⟨rfl, rfl, rfl, Nat.le_refl _, fun _ _ _ => rfl⟩
theorem Wr.trans {g : Nat} {w w1 w2 : World} (h : Wr g w w1) (k : Wr g w1 w2) : Wr g w w2 :=
  ⟨k.os.trans h.os, k.tape.trans h.tape, k.output.trans h.output, Nat.le_trans h.size k.size, fun i hi hne => (k.block i (Nat.lt_of_lt_of_le hi h.size) hne).trans (h.block i hi hne)⟩
theorem Wr.of_below {g : Nat} {w w1 : World} (h : Below w.heap.size w w1) : Wr g w w1 := ⟨h.os, h.tape, h.output, h.size, fun i hi _ => h.block i hi⟩
theorem Wr.set {g : Nat} {w w1 : World} (h : Wr g w w1) (j : Nat) (u : Value) : Wr g w (w1.setCell ⟨g, j, none⟩ u) :=
  have hb : Below 0 w1 (w1.setCell ⟨g, j, none⟩ u) := (Below.refl 0 w1).setCell (p := ⟨g, j, none⟩) (Nat.zero_le _) u
  h.trans ⟨hb.os, hb.tape, hb.output, by simp, fun i _ hne => Below.heap_setCell w1 ⟨g, j, none⟩ u i hne⟩
theorem Wr.below {g : Nat} {w0 w w1 : World} (h : Wr g w w1) (hb : Below w0.heap.size w0 w) (hg : w0.heap.size ≤ g) : Below w0.heap.size w0 w1 :=
  ⟨h.os.trans hb.os, h.tape.trans hb.tape, h.output.trans hb.output, Nat.le_trans hb.size h.size, fun i hi => (h.block i (Nat.lt_of_lt_of_le hi hb.size) (by omega)).trans (hb.block i hi)⟩
theorem Rw.wr {G : Nat → Prop} {k : IntKind} {g : Nat} {W W' : World} {v : Value} {xs : List Int} (h : Rw G k W v xs) (hw : Wr g W W') (hg : G g) : Rw G k W' v xs := h.step (fun b hb hlt => hw.block b hlt (fun e => hb (e ▸ hg)))
theorem Rw.below {G : Nat → Prop} {k : IntKind} {W W' : World} {v : Value} {xs : List Int} (h : Rw G k W v xs) (hw : Below W.heap.size W W') : Rw G k W' v xs := h.step (fun b _ hlt => hw.block b hlt)
theorem Rows.wr {G : Nat → Prop} {g : Nat} {W W' : World} {d : DV} {s : DS} (h : Rows G W d s) (hw : Wr g W W') (hg : G g) : Rows G W' d s :=
  ⟨h.1, h.2.1, h.2.2.1.wr hw hg, h.2.2.2.1, h.2.2.2.2.1, h.2.2.2.2.2.1, fun i hi => ⟨(h.2.2.2.2.2.2 i hi).1.wr hw hg, (h.2.2.2.2.2.2 i hi).2.1.wr hw hg, (h.2.2.2.2.2.2 i hi).2.2⟩⟩
/-- Another disk, or the same one where nothing of it is written. -/
theorem IsD.other {G : Nat → Prop} {g g' : Nat} {W W' : World} {s : DS} (h : IsD G W g s) (hw : Wr g' W W') (hg : G g') (hne : g ≠ g') : IsD G W' g s := by
  obtain ⟨h1, h2, d, hA, hR⟩ := h
  exact ⟨fun b hb => Nat.lt_of_lt_of_le (h1 b hb) hw.size, h2, d, hA.same (hw.block g (h1 g h2) hne), hR.wr hw hg⟩
theorem IsD.below {G : Nat → Prop} {g : Nat} {W W' : World} {s : DS} (h : IsD G W g s) (hw : Below W.heap.size W W') : IsD G W' g s := by
  obtain ⟨h1, h2, d, hA, hR⟩ := h
  exact ⟨fun b hb => Nat.lt_of_lt_of_le (h1 b hb) hw.size, h2, d, hA.same (hw.block g (h1 g h2)), hR.wr (Wr.of_below hw) h2⟩
theorem IsD.drew {G : Nat → Prop} {g : Nat} {W W' : World} {s : DS} (h : IsD G W g s) (hw : Drawn0 W W') : IsD G W' g s := h.below hw.below
/-- A new block that may be written from now on. -/
theorem IsD.more {G : Nat → Prop} {g b : Nat} {W W' : World} {s : DS} (h : IsD G W g s) (hb : W.heap.size ≤ b) (hb' : b < W'.heap.size) (hw : Below W.heap.size W W') : IsD (fun k => G k ∨ k = b) W' g s := by
  have h' := h.below hw
  obtain ⟨h1, h2, d, hA, hR⟩ := h
  have hR' : Rows (fun k => G k ∨ k = b) W d s := ⟨hR.1, hR.2.1, hR.2.2.1.grow (fun k hk hG => hG.elim id (fun e => by omega)), hR.2.2.2.1, hR.2.2.2.2.1, hR.2.2.2.2.2.1, fun i hi => ⟨(hR.2.2.2.2.2.2 i hi).1.grow (fun k hk hG => hG.elim id (fun e => by omega)), (hR.2.2.2.2.2.2 i hi).2.1.grow (fun k hk hG => hG.elim id (fun e => by omega)), (hR.2.2.2.2.2.2 i hi).2.2⟩⟩
  exact ⟨fun k hk => hk.elim (h'.lt k) (fun e => e ▸ hb'), .inl h2, d, hA.same (hw.block g (h1 g h2)), hR'.wr (Wr.of_below hw) (.inl h2)⟩
end Go.Proofs.Ytehjbhnlbjbhfaa.Dk
