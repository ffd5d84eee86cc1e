/- The plain side of DiskPlays: the told bytes are bytes; both disks tell alike; blocks that are written. -/
import Derived.Test.YtehjbhnlbjbhfaaRdH
import Derived.Test.YtehjbhnlbjbhfaaDkV
namespace Go.Proofs.Ytehjbhnlbjbhfaa.Rd
open Go Go.RowKit Go.Proofs.YtehjbhnlbjbhfaaW.PrintWords Go.Proofs.YtehjbhnlbjbhfaaW.PrintLast Go.Proofs.YtehjbhnlbjbhfaaW.PrintMore Go.Proofs.Ytehjbhnlbjbhfaa.Dk
open Go.Proofs.Ytehjbhnlbjbhfaa.PDiskBegins
set_option linter.unusedVariables false
/-- All files hold bytes. -/
def DB (s : DS) : Prop := ∀ f ∈ s.fs, By f.seen ∧ By f.lasts
theorem By.take {l : List Int} (h : By l) (n : Nat) : By (l.take n) := fun x hx => h x (List.mem_of_mem_take hx)
theorem By.app {l m : List Int} (h : By l) (h2 : By m) : By (l ++ m) := fun x hx => (List.mem_append.1 hx).elim (h x) (h2 x)
theorem By.nil : By [] := fun x hx => by cases hx
theorem DB.fl {s : DS} (h : DB s) (i : Nat) : By (fl s i).seen ∧ By (fl s i).lasts := by
  unfold Dk.fl
  rw [List.getD_eq_getElem?_getD]
  cases e : s.fs[i]? with
  | none => exact ⟨By.nil, By.nil⟩
  | some f => exact h f (List.mem_of_getElem? e)
theorem DB.setF {s : DS} (h : DB s) (i : Nat) {f : Fl} (hf : By f.seen ∧ By f.lasts) : DB (setF s i f) := by
  intro x hx
  rcases List.mem_or_eq_of_mem_set hx with hx | rfl
  · exact h x hx
  · exact hf
theorem DB.burn {s : DS} (h : DB s) (n : Nat) : DB (burnS s n) := by
  intro f hf; rw [(burn_fs s n).1] at hf; exact h f hf
theorem DB.fall {s : DS} (h : DB s) (keep : List Int) : DB (fallP s keep) := by
  intro f hf
  obtain ⟨f0, h0, k, rfl⟩ := after_mem s.fs 0 f hf
  have h1 := h f0 h0
  unfold afterP
  split
  · split
    · exact ⟨h1.1.take _, h1.1.take _⟩
    · exact ⟨h1.1.take _, h1.1.take _⟩
  · exact ⟨h1.2, h1.2⟩
theorem DB.act {s : DS} (n : Nat) {done : DS → Nat → DS} (h : DB (done (burnS s n) (burnN s n))) : DB (actP s n done).1 := by
  unfold actP
  split
  · exact h.fall _
  · exact h
theorem DB.does {s : DS} (h : DB s) (k : Dd) (hb : By k.b) : DB (doesP s k).1 := by
  have hc : ∀ i m n, DB (doneC i (burnS s m) n) := fun i m n => by
    unfold doneC; split
    · exact (h.burn m).setF i ⟨By.nil, ((h.burn m).fl i).2⟩
    · exact h.burn m
  have hy : ∀ i m n, DB (doneY i (burnS s m) n) := fun i m n => by
    unfold doneY; split
    · exact (h.burn m).setF i ⟨((h.burn m).fl i).1, ((h.burn m).fl i).1⟩
    · exact h.burn m
  have ha : ∀ i m n, DB (doneA i k.b (burnS s m) n) := fun i m n => (h.burn m).setF i ⟨((h.burn m).fl i).1.app (hb.take _), ((h.burn m).fl i).2⟩
  unfold doesP
  split
  · unfold clearP; split
    · exact h
    · exact DB.act _ (hc _ _ _)
  · split
    · unfold syncP; split
      · exact h
      · exact DB.act _ (hy _ _ _)
    · split
      · unfold crashP; split
        · exact h
        · exact h.fall _
      · split
        · unfold startP; split <;> exact h
        · split
          · unfold armP; split
            · exact h
            · split <;> exact h
          · unfold appendP; split
            · exact h
            · split
              · exact h
              · exact DB.act _ (ha _ _ _)
theorem DB.new (room : Int) : DB (newP room) := by
  intro f hf
  have : f = nf := by
    unfold newP at hf; exact (List.mem_replicate.1 hf).2
  subst this
  exact ⟨By.nil, By.nil⟩
theorem read_alike {s : DS} (h : s.room ≠ 0) (i : Int) : readX s i = readP s i := by unfold readX readP; rw [able_may h]
/-- All blocks from one world to a later one may be written. -/
theorem IsD.moreN {G : Nat → Prop} {g : Nat} {W W' : World} {s : DS} (h : IsD G W g s) (hw : Below W.heap.size W W') : IsD (fun k => G k ∨ (W.heap.size ≤ k ∧ k < W'.heap.size)) W' g s := by
  have h' := h.below hw
  obtain ⟨h1, h2, d, hA, hR⟩ := h
  have hs : ∀ k, k < W.heap.size → (G k ∨ (W.heap.size ≤ k ∧ k < W'.heap.size)) → G k := fun k hk hG => hG.elim id (fun e => by omega)
  have hR' : Dk.Rows (fun k => G k ∨ (W.heap.size ≤ k ∧ k < W'.heap.size)) W d s := ⟨hR.1, hR.2.1, hR.2.2.1.grow hs, hR.2.2.2.1, hR.2.2.2.2.1, hR.2.2.2.2.2.1, fun i hi => ⟨(hR.2.2.2.2.2.2 i hi).1.grow hs, (hR.2.2.2.2.2.2 i hi).2.1.grow hs, (hR.2.2.2.2.2.2 i hi).2.2⟩⟩
  exact ⟨fun k hk => hk.elim (h'.lt k) (fun e => e.2), .inl h2, d, hA.same (hw.block g (h1 g h2)), hR'.wr (Wr.of_below hw) (.inl h2)⟩
theorem IsX.moreN {G : Nat → Prop} {g : Nat} {W W' : World} {s : DS} (h : IsX G W g s) (hw : Below W.heap.size W W') : IsX (fun k => G k ∨ (W.heap.size ≤ k ∧ k < W'.heap.size)) W' g s := by
  have h' := h.below hw
  obtain ⟨h1, h2, kv, hA, hR⟩ := h
  have hs : ∀ k, k < W.heap.size → (G k ∨ (W.heap.size ≤ k ∧ k < W'.heap.size)) → G k := fun k hk hG => hG.elim id (fun e => by omega)
  exact ⟨fun k hk => hk.elim (h'.lt k) (fun e => e.2), .inl h2, kv, hA.same (hw.block g (h1 g h2)), (hR.grow hs).wr (Wr.of_below hw) (.inl h2)⟩
/-- Both disks, and all that is written lies behind W0. -/
structure Both (G : Nat → Prop) (W0 W : World) (b x : Nat) (s : DS) : Prop where
  d : IsD G W b s
  x : IsX G W x s
  w : Below W0.heap.size W0 W
theorem Both.put {G : Nat → Prop} {W0 W : World} {b x g : Nat} {s : DS} (h : Both G W0 W b x s) (hg : G g) (hb : b ≠ g) (hx : x ≠ g) (h0 : W0.heap.size ≤ g) (j : Nat) (u : Value) : Both G W0 (W.setCell ⟨g, j, none⟩ u) b x s :=
  ⟨h.d.other ((Wr.refl g W).set j u) hg hb, h.x.other ((Wr.refl g W).set j u) hg hx, h.w.setCell (p := ⟨g, j, none⟩) h0 u⟩
theorem Both.below {G : Nat → Prop} {W0 W W' : World} {b x : Nat} {s : DS} (h : Both G W0 W b x s) (hw : Below W.heap.size W W') : Both G W0 W' b x s :=
  ⟨h.d.below hw, h.x.below hw, below_step h.w hw⟩
theorem Both.moreN {G : Nat → Prop} {W0 W W' : World} {b x : Nat} {s : DS} (h : Both G W0 W b x s) (hw : Below W.heap.size W W') : Both (fun k => G k ∨ (W.heap.size ≤ k ∧ k < W'.heap.size)) W0 W' b x s :=
  ⟨IsD.moreN h.d hw, IsX.moreN h.x hw, below_step h.w hw⟩
theorem Both.less {G G' : Nat → Prop} {W0 W : World} {b x : Nat} {s : DS} (h : Both G W0 W b x s) (hb : G' b) (hx : G' x) (hs : ∀ k, G' k → G k) : Both G' W0 W b x s :=
  ⟨h.d.grow (fun k hk => h.d.lt k (hs k hk)) hb (fun k _ hk => hs k hk), h.x.grow (fun k hk => h.x.lt k (hs k hk)) hx (fun k _ hk => hs k hk), h.w⟩
/-- A row of a call's own that is written at a place. -/
theorem row_put {k : IntKind} {e : Nat} {W : World} {base : Nat} {ok : Nat → Prop} {A : Option Addr} {n c : Nat} {ys : List Int} (h : (Kd.int k).R e W base ok (.slice A n c) ys) (hl : ys.length = n) (j : Nat) (hj : j < n) :
    ∃ g, A = some ⟨g, 0, none⟩ ∧ base ≤ g ∧ g < W.heap.size ∧ ok g ∧ W.cell? ⟨g, j, none⟩ = some (.int k (rd ys (j : Int))) ∧ W.frozen? ⟨g, j, none⟩ = false ∧ (∃ cells, W.heap[g]? = some (.cells cells e (0, 0))) ∧ ∀ x, (Kd.int k).R e (W.setCell ⟨g, j, none⟩ (.int k x)) base ok (.slice A n c) (ys.set j x) ∧ (ys.set j x).length = n := by
  subst hl
  obtain ⟨g, cap, hv, hbg, hg, cells, hc⟩ := Kd.R_form h (by omega)
  injection hv with h1 h2 h3
  subst h1 h3
  obtain ⟨ad, e0, hx⟩ := Kd.at_int (Kd.R_reads' h).2.2 (j : Int) (by omega) (by omega)
  cases e0
  rw [Int.toNat_natCast, add_at, Nat.zero_add] at hx
  refine ⟨g, rfl, hbg, hg, h.1 g rfl, hx, blk_frozen hc j, ⟨cells, hc⟩, fun x => ⟨?_, by simp⟩⟩
  have hp := (Kd.R_put h (j : Int) x).1
  rw [Int.toNat_natCast] at hp
  exact hp
theorem other_block {W : World} {g h : Nat} {c1 c2 : Array Value} {t1 t2 : Nat} (h1 : W.heap[g]? = some (.cells c1 t1 (0, 0))) (h2 : W.heap[h]? = some (.cells c2 t2 (0, 0))) (hne : t1 ≠ t2) : g ≠ h := by
  rintro rfl
  rw [h1] at h2
  injection h2 with h2; injection h2 with _ h2 _
  exact hne h2
theorem Equal_same (A : Option Addr) (c : Nat) (B : Option Addr) (d : Nat) (l : List Int) (w : World) (h1 : Kd.C (Kd.int .u8) w A l.length l) (hc : l.length ≤ c) (h2 : Kd.C (Kd.int .u8) w B l.length l) (hd : l.length ≤ d) :
    Calls Try.prog 22 #[.slice A l.length c, .slice B l.length d] w fun e w' => e = .returned (.bool true) ∧ Drawn0 w w' := bytes_Equal.calls A c l B d l true w h1 hc h2 hd (by unfold bytes_Equal.f; simp)
end Go.Proofs.Ytehjbhnlbjbhfaa.Rd
