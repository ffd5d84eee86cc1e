/- The plain law of DiskApart; a struct that came in. -/
import Derived.Test.YtnnkohddhiecoaaDkY
import Derived.Test.YtnnkohddhiecoaaOpenA
namespace Go.Proofs.Ytnnkohddhiecoaa.Dk
open Go Go.RowKit Go.Proofs.YtnnkohddhiecoaaW.PrintWords Go.Proofs.YtnnkohddhiecoaaW.PrintLast Go.Proofs.YtnnkohddhiecoaaW.PrintMore
open Go.Proofs.Ytnnkohddhiecoaa.PDiskBegins
set_option linter.unusedVariables false
theorem one_K {W : World} {g : Nat} {t : TypeId} {fr : Nat × Nat} {cs : List Value} {y : S35} (hg : W.heap[g]? = some (.cells cs.toArray t fr)) (h : k35.K W y cs) : k35.C W (some ⟨g, 0, none⟩) 1 [y] := by
  have hl : cs.length = k35.sz := by
    obtain ⟨A3, c3, A4, c4, rfl, _⟩ := k35_open h
    rfl
  refine ⟨rfl, by decide, fun _ => ⟨_, rfl, fun j l hj => ?_⟩⟩
  have h0 : j = 0 := by
    have := (List.getElem?_eq_some_iff.1 hj).1
    simp at this; exact this
  subst h0
  injection hj with hj
  subst hj
  refine ⟨cs, hl, h, fun i u hi => ?_⟩
  have ha : (⟨g, 0, none⟩ : Addr).add (0 * k35.sz + i) = ⟨g, i, none⟩ := by
    rw [add_at]; simp
  rw [ha, cell_of_row W g i _ t fr hg, List.getElem?_toArray]
  exact hi
theorem act_apart {s : DS} {n : Nat} {done : DS → Nat → DS} {j : Nat} (h : (fl (done (burnS s n) (burnN s n)) j).seen = (fl s j).seen) (he : (actP s n done).2 ≠ 50) : (fl (actP s n done).1 j).seen = (fl s j).seen := by
  unfold actP at he ⊢
  by_cases c : struckP s n = true
  · rw [if_pos c] at he; exact absurd rfl he
  · rw [if_neg c]; exact h
theorem apart {s : DS} (hok : Okk s) (k : Dd) (he : (doesP s k).2 ≠ 50) (ho : (doesP s k).1.off = false) {j : Nat} (hj : (j : Int) ≠ k.i) : (fl (doesP s k).1 j).seen = (fl s j).seen := by
  unfold doesP at he ho ⊢
  by_cases c4 : kind k.op = 4
  · rw [if_pos c4] at he ho ⊢
    unfold clearP at he ho ⊢
    by_cases c : ableP s k.i ≠ 0
    · rw [if_pos c]
    · rw [if_neg c] at he ho ⊢
      rcases able_cases s k.i with d | ⟨_, i, hi, e, _, _⟩
      · exact absurd d c
      · rw [e, Int.toNat_natCast] at he ho ⊢
        exact act_apart (by rw [fl_doneC _ (hok.1.burn 1).len hi _ j (fun e2 => hj (by rw [e, e2])), fl_burn]) he
  · rw [if_neg c4] at he ho ⊢
    by_cases c5 : kind k.op = 5
    · rw [if_pos c5] at he ho ⊢
      unfold syncP at he ho ⊢
      by_cases c : ableP s k.i ≠ 0
      · rw [if_pos c]
      · rw [if_neg c] at he ho ⊢
        rcases able_cases s k.i with d | ⟨_, i, hi, e, _, _⟩
        · exact absurd d c
        · rw [e, Int.toNat_natCast] at he ho ⊢
          refine act_apart ?_ he
          unfold doneY
          split
          · rw [fl_setF _ (hok.1.burn 1).len hi, fl_burn, fl_burn]
            split
            · rename_i e2; subst e2; rfl
            · rfl
          · rw [fl_burn]
    · rw [if_neg c5] at he ho ⊢
      by_cases c6 : kind k.op = 6
      · rw [if_pos c6] at he ho ⊢
        unfold crashP at he ho ⊢
        by_cases c : ableP s 0 ≠ 0
        · rw [if_pos c]
        · rw [if_neg c] at ho; cases ho
      · rw [if_neg c6] at he ho ⊢
        by_cases c7 : kind k.op = 7
        · rw [if_pos c7]
          unfold startP
          split <;> rfl
        · rw [if_neg c7] at he ho ⊢
          by_cases c8 : kind k.op = 8
          · rw [if_pos c8]
            unfold armP
            split
            · rfl
            · split <;> rfl
          · rw [if_neg c8] at he ho ⊢
            unfold appendP at he ho ⊢
            by_cases c : ableP s k.i ≠ 0
            · rw [if_pos c]
            · rw [if_neg c] at he ho ⊢
              by_cases c2 : s.room < (usedP s : Int) + (k.b.length : Int)
              · rw [if_pos c2]
              · rw [if_neg c2] at he ho ⊢
                rcases able_cases s k.i with d | ⟨_, i, hi, e, _, _⟩
                · exact absurd d c
                · rw [e, Int.toNat_natCast] at he ho ⊢
                  refine act_apart ?_ he
                  unfold doneA
                  rw [fl_setF _ (hok.1.burn _).len hi, if_neg (fun e2 => hj (by rw [e, e2])), fl_burn]
theorem read_off {s : DS} (hr : s.room ≠ 0) (ho : s.off = true) : readP s 0 = ([], 50) := by
  have h : ableP s 0 = 50 := by unfold ableP; rw [if_neg hr, if_pos ho]
  unfold readP
  rw [h, if_pos (by decide)]
theorem read_on {s : DS} (hr : s.room ≠ 0) (ho : s.off = false) {i : Nat} (hi : i < 8) : readP s (i : Int) = ((fl s i).seen, 0) := by
  unfold readP
  rw [if_neg (by rw [able_on hi hr ho]; decide), Int.toNat_natCast]
end Go.Proofs.Ytnnkohddhiecoaa.Dk
