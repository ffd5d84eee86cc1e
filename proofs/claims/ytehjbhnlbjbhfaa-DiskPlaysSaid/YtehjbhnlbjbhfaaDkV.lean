/- short at the lists that a law builds; the plain laws of the files behind an act. -/
import Derived.Test.YtehjbhnlbjbhfaaDkU
namespace Go.Proofs.Ytehjbhnlbjbhfaa.Dk
open Go Go.RowKit Go.Proofs.YtehjbhnlbjbhfaaW.PrintWords Go.Proofs.YtehjbhnlbjbhfaaW.PrintLast Go.Proofs.YtehjbhnlbjbhfaaW.PrintMore
open Go.Proofs.Ytehjbhnlbjbhfaa.PDiskBegins
set_option linter.unusedVariables false
theorem lists_C {W : World} {g : Nat} {t : TypeId} {fr : Nat × Nat} {cs : List Value} {ls : List (List S35)} (hg : W.heap[g]? = some (.cells cs.toArray t fr)) (hm : ls.length ≤ 9223372036854775807)
    (h : ∀ (j : Nat) (l : List S35), ls[j]? = some l → ∃ A c, cs[j]? = some (Value.slice A l.length c) ∧ l.length ≤ c ∧ k35.C W A l.length l) : Kd.C (Kd.slice 35 k35) W (some ⟨g, 0, none⟩) ls.length ls := by
  refine ⟨rfl, hm, fun _ => ⟨_, rfl, fun j l hj => ?_⟩⟩
  obtain ⟨A, c, h1, h2, h3⟩ := h j l hj
  refine ⟨[Value.slice A l.length c], rfl, ⟨A, c, rfl, h2, h3⟩, fun i u hi => ?_⟩
  have hi0 : i = 0 := by
    have := (List.getElem?_eq_some_iff.1 hi).1
    simp at this; exact this
  subst hi0
  injection hi with hi
  subst hi
  have ha : (⟨g, 0, none⟩ : Addr).add (j * (Kd.slice 35 k35).sz + 0) = ⟨g, j, none⟩ := by
    rw [add_at, show (Kd.slice 35 k35).sz = 1 from rfl]; simp
  rw [ha, cell_of_row W g j _ t fr hg, List.getElem?_toArray, h1]
/-- short at the one list that came in. -/
theorem short1 (l : List S35) (A : Option Addr) (c : Nat) (w : World) (hC : k35.C w A l.length l) (hc : l.length ≤ c) : ∃ r : Bool, (r = true → lsum [l] ≤ 16384 ∧ ∀ x ∈ l, Small x) ∧
    Calls Try.prog 12 #[.slice (some ⟨w.heap.size, 0, none⟩) 1 1] (w.alloc (.cells #[.slice A l.length c] 22)) fun e w' => e = .returned (.bool r) ∧ Below w.heap.size w w' := by
  obtain ⟨k, r, h1, h2⟩ := short_says [l] (by simp) (fun x hx => by rw [List.mem_singleton.1 hx]; exact Kd.C_max hC)
  refine ⟨r, fun e => ⟨(h2 e).1, (h2 e).2 l (List.mem_singleton.2 rfl)⟩, ?_⟩
  refine (towlinelaw05_short.calls k _ 1 [l] r _ (lists_C (cs := [.slice A l.length c]) (blk_new w (.cells #[.slice A l.length c] 22)) (by simp) ?_) (Nat.le_refl _) h1).mono ?_
  · intro j m hj
    match j, hj with
    | 0, hj =>
      injection hj with hj
      subst hj
      exact ⟨A, c, rfl, hc, Kd.C_below hC (below_alloc (Below.refl _ _) _)⟩
  · rintro e w' ⟨rfl, hb⟩
    exact ⟨rfl, below_step (below_alloc (Below.refl _ _) _) hb⟩
theorem short2 (l m : List S35) (A : Option Addr) (c : Nat) (B : Option Addr) (d : Nat) (w : World) (hC : k35.C w A l.length l) (hc : l.length ≤ c) (hD : k35.C w B m.length m) (hd : m.length ≤ d) : ∃ r : Bool, (r = true → lsum [l, m] ≤ 16384 ∧ (∀ x ∈ l, Small x) ∧ ∀ x ∈ m, Small x) ∧
    Calls Try.prog 12 #[.slice (some ⟨w.heap.size, 0, none⟩) 2 2] (w.alloc (.cells #[.slice A l.length c, .slice B m.length d] 22)) fun e w' => e = .returned (.bool r) ∧ Below w.heap.size w w' := by
  obtain ⟨k, r, h1, h2⟩ := short_says [l, m] (by simp) (fun x hx => by
    rcases List.mem_cons.1 hx with rfl | hx
    · exact Kd.C_max hC
    · rw [List.mem_singleton.1 hx]; exact Kd.C_max hD)
  refine ⟨r, fun e => ⟨(h2 e).1, (h2 e).2 l (by simp), (h2 e).2 m (by simp)⟩, ?_⟩
  refine (towlinelaw05_short.calls k _ 2 [l, m] r _ (lists_C (cs := [.slice A l.length c, .slice B m.length d]) (blk_new w (.cells #[.slice A l.length c, .slice B m.length d] 22)) (by simp) ?_) (Nat.le_refl _) h1).mono ?_
  · intro j x hj
    match j, hj with
    | 0, hj =>
      injection hj with hj
      subst hj
      exact ⟨A, c, rfl, hc, Kd.C_below hC (below_alloc (Below.refl _ _) _)⟩
    | 1, hj =>
      injection hj with hj
      subst hj
      exact ⟨B, d, rfl, hd, Kd.C_below hD (below_alloc (Below.refl _ _) _)⟩
  · rintro e w' ⟨rfl, hb⟩
    exact ⟨rfl, below_step (below_alloc (Below.refl _ _) _) hb⟩
/-! ### the files behind an act -/
theorem fl_fall {s : DS} (h : s.fs.length = 8) (keep : List Int) {j : Nat} (hj : j < 8) : fl (fallP s keep) j = afterP (fl s j) (kv keep j) := by
  have h1 : fallP s keep = { fallP s keep with fs := midFs s keep 8 } := by rw [midFs_8 s keep h]; rfl
  have h2 := midFs_get s keep 8 j hj
  rw [if_pos hj] at h2
  rw [h1]; exact h2
theorem able_on {s : DS} {j : Nat} (hj : j < 8) (hr : s.room ≠ 0) (ho : s.off = false) : ableP s (j : Int) = 0 := by
  unfold ableP
  rw [if_neg hr, ho, if_neg (by decide), if_neg (show ¬ ((j : Int) < 0 ∨ 8 ≤ (j : Int)) by omega)]
theorem start_eq {s : DS} (hr : s.room ≠ 0) : (startP s).1 = { s with off := false } := by unfold startP; rw [if_neg hr]
theorem act_room (s : DS) (n : Nat) (done : DS → Nat → DS) (h : ∀ s n, (done s n).room = s.room) : (actP s n done).1.room = s.room := by
  unfold actP
  split
  · show (done (burnS s n) (burnN s n)).room = _
    rw [h, (burn_fs s n).2.2.1]
  · rw [h, (burn_fs s n).2.2.1]
theorem doneC_room (i : Nat) (s : DS) (n : Nat) : (doneC i s n).room = s.room := by unfold doneC; split <;> rfl
theorem doneY_room (i : Nat) (s : DS) (n : Nat) : (doneY i s n).room = s.room := by unfold doneY; split <;> rfl
theorem doneA_room (i : Nat) (b : List Int) (s : DS) (n : Nat) : (doneA i b s n).room = s.room := rfl
theorem append_room (s : DS) (i : Int) (b : List Int) : (appendP s i b).1.room = s.room := by
  unfold appendP
  split
  · rfl
  · split
    · rfl
    · exact act_room _ _ _ (doneA_room _ _)
theorem does_room (s : DS) (k : Dd) : (doesP s k).1.room = s.room := by
  unfold doesP
  split
  · unfold clearP; split
    · rfl
    · exact act_room _ _ _ (doneC_room _)
  · split
    · unfold syncP; split
      · rfl
      · exact act_room _ _ _ (doneY_room _)
    · split
      · unfold crashP; split <;> rfl
      · split
        · unfold startP; split <;> rfl
        · split
          · unfold armP; split
            · rfl
            · split <;> rfl
          · exact append_room _ _ _
theorem go_room (s : DS) (l : List S35) : (goP s l).room = s.room := by
  induction l generalizing s with
  | nil => rfl
  | cons a l ih => exact (ih _).trans (does_room _ _)
theorem start_room (s : DS) : (startP s).1.room = s.room := by unfold startP; split <;> rfl
end Go.Proofs.Ytehjbhnlbjbhfaa.Dk
