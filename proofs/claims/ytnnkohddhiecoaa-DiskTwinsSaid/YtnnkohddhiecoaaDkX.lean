/- The plain law of DiskLasts: what was synced stays ahead. -/
import Derived.Test.YtnnkohddhiecoaaDkW
namespace Go.Proofs.Ytnnkohddhiecoaa.Dk
open Go Go.RowKit Go.Proofs.YtnnkohddhiecoaaW.PrintWords Go.Proofs.YtnnkohddhiecoaaW.PrintLast Go.Proofs.YtnnkohddhiecoaaW.PrintMore
open Go.Proofs.Ytnnkohddhiecoaa.PDiskBegins
set_option linter.unusedVariables false
def LI (s : DS) (i : Nat) (was : List Int) : Prop := (fl s i).cl = false ∧ ∃ t, (fl s i).lasts = was ++ t
theorem LI.same {s s' : DS} {i : Nat} {was : List Int} (h : LI s i was) (e : fl s' i = fl s i) : LI s' i was := by unfold LI; rw [e]; exact h
theorem LI.fall {s : DS} {i : Nat} {was : List Int} (h : LI s i was) (hok : Ok s) (hi : i < 8) (keep : List Int) : LI (fallP s keep) i was := by
  unfold LI
  rw [fl_fall hok.len keep hi]
  obtain ⟨h1, t, h2⟩ := h
  obtain ⟨u, h3⟩ := hok.pre _ (hok.fl_mem hi) h1
  refine ⟨(after_same _ _).2, ?_⟩
  unfold afterP
  split
  · rw [if_neg (by rw [h1]; decide)]
    refine ⟨t ++ u.take (kv keep i).toNat, ?_⟩
    show (fl s i).seen.take ((fl s i).lasts.length + (kv keep i).toNat) = _
    rw [h3, List.take_length_add_append, h2, List.append_assoc]
  · exact ⟨t, h2⟩
theorem LI.act {s : DS} {i : Nat} {was : List Int} {n : Nat} {done : DS → Nat → DS} (h : LI (done (burnS s n) (burnN s n)) i was) (hok : Ok (done (burnS s n) (burnN s n))) (hi : i < 8) : LI (actP s n done).1 i was := by
  unfold actP
  split
  · exact h.fall hok hi _
  · exact h
theorem fl_doneC (s : DS) (h : s.fs.length = 8) {j : Nat} (hj : j < 8) (m i : Nat) (hne : j ≠ i) : fl (doneC j s m) i = fl s i := by
  unfold doneC
  split
  · rw [fl_setF s h hj, if_neg hne]
  · rfl
theorem LI.does {s : DS} {i : Nat} {was : List Int} (h : LI s i was) (hok : Okk s) (hi : i < 8) (k : Dd) (hk : kind k.op = 4 → k.i ≠ (i : Int)) : LI (doesP s k).1 i was := by
  unfold doesP
  split
  · rename_i c4
    unfold clearP
    by_cases c : ableP s k.i ≠ 0
    · rw [if_pos c]; exact h
    · rw [if_neg c]
      rcases able_cases s k.i with d | ⟨_, j, hj, e, _, _⟩
      · exact absurd d c
      · have hne : j ≠ i := fun e2 => hk c4 (by rw [e, e2])
        rw [e, Int.toNat_natCast]
        refine LI.act ?_ ((hok.1.burn 1).doneC hj _) hi
        exact h.same ((fl_doneC _ (hok.1.burn 1).len hj _ i hne).trans (fl_burn s 1 i))
  · split
    · unfold syncP
      by_cases c : ableP s k.i ≠ 0
      · rw [if_pos c]; exact h
      · rw [if_neg c]
        rcases able_cases s k.i with d | ⟨_, j, hj, e, _, _⟩
        · exact absurd d c
        · rw [e, Int.toNat_natCast]
          refine LI.act ?_ ((hok.1.burn 1).doneY hj _) hi
          unfold doneY
          split
          · unfold LI
            rw [fl_setF _ (hok.1.burn 1).len hj, fl_burn, fl_burn]
            split
            · rename_i e2
              subst e2
              obtain ⟨h1, t, h2⟩ := h
              obtain ⟨u, h3⟩ := hok.1.pre _ (hok.1.fl_mem hi) h1
              exact ⟨rfl, t ++ u, by show (fl s j).seen = _; rw [h3, h2, List.append_assoc]⟩
            · exact h
          · exact h.same (fl_burn s 1 i)
    · split
      · unfold crashP
        split
        · exact h
        · exact h.fall hok.1 hi _
      · split
        · unfold startP; split
          · exact h
          · exact h.same rfl
        · split
          · unfold armP; split
            · exact h
            · split
              · exact h
              · exact h.same rfl
          · unfold appendP
            by_cases c : ableP s k.i ≠ 0
            · rw [if_pos c]; exact h
            · rw [if_neg c]
              by_cases c2 : s.room < (usedP s : Int) + (k.b.length : Int)
              · rw [if_pos c2]; exact h
              · rw [if_neg c2]
                rcases able_cases s k.i with d | ⟨_, j, hj, e, _, _⟩
                · exact absurd d c
                · rw [e, Int.toNat_natCast]
                  refine LI.act ?_ ((hok.1.burn _).doneA hj k.b _ (by rw [fl_burn]; exact fits hok.1 hj k.b c2)) hi
                  unfold doneA LI
                  rw [fl_setF _ (hok.1.burn _).len hj, fl_burn, fl_burn]
                  split
                  · rename_i e2
                    subst e2
                    exact h
                  · exact h
/-- The sync went through. -/
theorem sync_on {s : DS} (hok : Okk s) (hr : s.room ≠ 0) (ho : s.off = false) {i : Nat} (hi : i < 8) : (syncP s (i : Int)).2 = 50 ∨ ((syncP s (i : Int)).2 = 0 ∧ (syncP s (i : Int)).1.room = s.room ∧ (syncP s (i : Int)).1.off = false ∧ LI (syncP s (i : Int)).1 i (fl s i).seen ∧ (fl (syncP s (i : Int)).1 i).seen = (fl s i).seen) := by
  have he : syncP s (i : Int) = actP s 1 (doneY i) := by
    unfold syncP
    rw [if_neg (by rw [able_on hi hr ho]; decide), Int.toNat_natCast]
  rw [he]
  unfold actP
  by_cases c : struckP s 1 = true
  · rw [if_pos c]; exact .inl rfl
  · rw [if_neg c]
    have h1 : burnN s 1 = 1 := by
      unfold burnN
      unfold struckP at c
      simp only [Bool.and_eq_true, decide_eq_true_eq] at c
      exact if_neg c
    rw [h1]
    have h2 : fl (doneY i (burnS s 1) 1) i = ⟨(fl s i).seen, (fl s i).seen, false⟩ := by
      unfold doneY
      rw [if_pos rfl, fl_setF _ (hok.1.burn 1).len hi, if_pos rfl, fl_burn]
    refine .inr ⟨rfl, by rw [doneY_room, (burn_fs s 1).2.2.1], ?_, ?_, ?_⟩
    · show (burnS s 1).off = false
      rw [(burn_fs s 1).2.2.2.1]; exact ho
    · unfold LI; rw [h2]; exact ⟨rfl, [], (List.append_nil _).symm⟩
    · rw [h2]
theorem hasP_pre {a b : List Int} (h : ∃ t, a = b ++ t) : hasP a b = true := by
  obtain ⟨t, rfl⟩ := h
  unfold hasP
  rw [List.take_left', eqB_same, decide_eq_true (by simp)]
  · rfl
  · rfl
theorem LI.seen {s : DS} {i : Nat} {was : List Int} (h : LI s i was) (hok : Ok s) (hi : i < 8) : ∃ t, (fl s i).seen = was ++ t := by
  obtain ⟨h1, t, h2⟩ := h
  obtain ⟨u, h3⟩ := hok.pre _ (hok.fl_mem hi) h1
  exact ⟨t ++ u, by rw [h3, h2, List.append_assoc]⟩
end Go.Proofs.Ytnnkohddhiecoaa.Dk
