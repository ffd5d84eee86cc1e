/- The law's short: what it asks. -/
import Derived.Test.YtehjbhnlbjbhfaaDkS
namespace Go.Proofs.Ytehjbhnlbjbhfaa.Dk
open Go Go.RowKit Go.Proofs.YtehjbhnlbjbhfaaW.PrintWords Go.Proofs.YtehjbhnlbjbhfaaW.PrintLast Go.Proofs.YtehjbhnlbjbhfaaW.PrintMore
open Go.Proofs.Ytehjbhnlbjbhfaa.PDiskBegins
set_option linter.unusedVariables false
set_option linter.unusedSimpArgs false
def Small (x : S35) : Prop := x.f3.length ≤ 16384 ∧ x.f4.length ≤ 16384
theorem mn_nn (a : Nat) : 0 ≤ mn (a : Int) 16385 ∧ mn (a : Int) 16385 ≤ 16385 ∧ (mn (a : Int) 16385 ≤ 16384 → a ≤ 16384) := by
  unfold mn
  split <;> omega
/-- So many bytes. -/
def bsum (l : List S35) : Nat := (l.map fun x => x.f3.length).sum
theorem bsum_drop (l : List S35) {i : Nat} (h : i < l.length) : bsum (l.drop i) = (rd_T35 l (i : Int)).f3.length + bsum (l.drop (i + 1)) := by
  unfold bsum rd_T35
  rw [List.drop_eq_getElem_cons h, List.map_cons, List.sum_cons, Int.toNat_natCast, List.getD_eq_getElem?_getD, List.getElem?_eq_getElem h]; rfl
def lsum (ls : List (List S35)) : Nat := (ls.map bsum).sum
theorem lsum_drop (ls : List (List S35)) {i : Nat} (h : i < ls.length) : lsum (ls.drop i) = bsum (rd_L5 ls (i : Int)) + lsum (ls.drop (i + 1)) := by
  unfold lsum rd_L5
  rw [List.drop_eq_getElem_cons h, List.map_cons, List.sum_cons, Int.toNat_natCast, List.getD_eq_getElem?_getD, List.getElem?_eq_getElem h]; rfl
theorem inner (x8 : List (List S35)) (x9 x10 : Int) (l : List S35) (hl : l.length ≤ 9223372036854775807) : ∀ (d i : Nat) (n acts : Int), i + d = l.length → 0 ≤ n → n ≤ 49154 → 0 ≤ acts → acts ≤ 151 →
    ∃ n' acts' : Int, n ≤ n' ∧ n' ≤ 49154 ∧ acts ≤ acts' ∧ acts' ≤ 151 ∧ (n' ≤ 16384 → acts' ≤ 150 → ∀ j, i ≤ j → j < l.length → Small (rd_T35 l (j : Int))) ∧ (n' ≤ 16384 → acts' ≤ 150 → n + (bsum (l.drop i) : Nat) ≤ n') ∧
      ∀ k r, towlinelaw05_short.l0 k n' acts' x8 x9 (wrap64 (x10 + 1)) = some r → ∃ k', towlinelaw05_short.l1 k' n acts l (i : Int) x8 x9 x10 = some r := by
  intro d
  induction d with
  | zero =>
    intro i n acts hi h1 h2 h3 h4
    refine ⟨n, acts, Int.le_refl _, h2, Int.le_refl _, h4, fun _ _ j hj hj2 => by omega, fun _ _ => by rw [List.drop_eq_nil_of_le (by omega)]; simp [bsum], fun k r h => ⟨k + 1, ?_⟩⟩
    simp only [towlinelaw05_short.l1]
    rw [if_neg (by omega)]
    exact h
  | succ d ih =>
    intro i n acts hi h1 h2 h3 h4
    by_cases ca : acts ≤ 150
    · by_cases cn : n ≤ 16384
      · obtain ⟨p1, p2, p3⟩ := mn_nn (rd_T35 l (i : Int)).f3.length
        obtain ⟨q1, q2, q3⟩ := mn_nn (rd_T35 l (i : Int)).f4.length
        have e1 : wrap64 (n + (mn ((rd_T35 l (i : Int)).f3.length : Int) 16385 + mn ((rd_T35 l (i : Int)).f4.length : Int) 16385)) = n + (mn ((rd_T35 l (i : Int)).f3.length : Int) 16385 + mn ((rd_T35 l (i : Int)).f4.length : Int) 16385) := by unfold wrap64; omega
        have e2 : wrap64 (acts + 1) = acts + 1 := by unfold wrap64; omega
        have e3 : wrap64 ((i : Int) + 1) = ((i + 1 : Nat) : Int) := by unfold wrap64; omega
        obtain ⟨n', acts', a1, a2, a3, a4, a5, a7, a6⟩ := ih (i + 1) (n + (mn ((rd_T35 l (i : Int)).f3.length : Int) 16385 + mn ((rd_T35 l (i : Int)).f4.length : Int) 16385)) (acts + 1) (by omega) (by omega) (by omega) (by omega) (by omega)
        refine ⟨n', acts', by omega, a2, by omega, a4, fun b1 b2 j hj hj2 => ?_, fun b1 b2 => ?_, fun k r h => ?_⟩
        · by_cases e : j = i
          · subst e; exact ⟨p3 (by omega), q3 (by omega)⟩
          · exact a5 b1 b2 j (by omega) hj2
        · have hb := a7 b1 b2
          have hd := bsum_drop l (show i < l.length by omega)
          have hm : mn ((rd_T35 l (i : Int)).f3.length : Int) 16385 = ((rd_T35 l (i : Int)).f3.length : Int) := by
            have := p3 (by omega)
            unfold mn; rw [if_neg (by omega)]
          rw [hd]
          omega
        · obtain ⟨k', hk⟩ := a6 k r h
          refine ⟨k' + 1, ?_⟩
          simp only [towlinelaw05_short.l1]
          rw [if_pos (by omega), if_pos ca, if_pos cn, if_pos (by omega), e1, e2, e3]
          exact hk
      · refine ⟨n, acts, Int.le_refl _, h2, Int.le_refl _, h4, fun b _ => absurd b cn, fun b _ => absurd b cn, fun k r h => ⟨k + 1, ?_⟩⟩
        simp only [towlinelaw05_short.l1]
        rw [if_pos (by omega), if_pos ca, if_neg cn]
        exact h
    · refine ⟨n, acts, Int.le_refl _, h2, Int.le_refl _, h4, fun _ b => absurd b ca, fun _ b => absurd b ca, fun k r h => ⟨k + 1, ?_⟩⟩
      simp only [towlinelaw05_short.l1]
      rw [if_pos (by omega), if_neg ca]
      exact h
theorem outer (ls : List (List S35)) (hl : ls.length ≤ 9223372036854775807) (hl2 : ∀ l ∈ ls, l.length ≤ 9223372036854775807) : ∀ (d i : Nat) (n acts : Int), i + d = ls.length → 0 ≤ n → n ≤ 49154 → 0 ≤ acts → acts ≤ 151 →
    ∃ k r, towlinelaw05_short.l0 k n acts ls (ls.length : Int) (i : Int) = some r ∧ (r = true → n + (lsum (ls.drop i) : Nat) ≤ 16384 ∧ acts ≤ 150 ∧ ∀ j, i ≤ j → j < ls.length → ∀ m, m < (rd_L5 ls (j : Int)).length → Small (rd_T35 (rd_L5 ls (j : Int)) (m : Int))) := by
  intro d
  induction d with
  | zero =>
    intro i n acts hi h1 h2 h3 h4
    by_cases ca : acts ≤ 150
    · refine ⟨1, decide (n ≤ 16384), ?_, fun e => ⟨by rw [List.drop_eq_nil_of_le (by omega)]; have := of_decide_eq_true e; simpa [lsum] using this, ca, fun j hj hj2 => by omega⟩⟩
      simp only [towlinelaw05_short.l0]
      rw [if_neg (by omega), if_pos ca]
    · refine ⟨1, false, ?_, fun e => by cases e⟩
      simp only [towlinelaw05_short.l0]
      rw [if_neg (by omega), if_neg ca]
  | succ d ih =>
    intro i n acts hi h1 h2 h3 h4
    have hm : rd_L5 ls (i : Int) ∈ ls := by
      unfold rd_L5
      rw [Int.toNat_natCast, List.getD_eq_getElem?_getD, List.getElem?_eq_getElem (by omega)]
      exact List.getElem_mem _
    obtain ⟨n', acts', a1, a2, a3, a4, a5, a7, a6⟩ := inner ls (ls.length : Int) (i : Int) (rd_L5 ls (i : Int)) (hl2 _ hm) (rd_L5 ls (i : Int)).length 0 n acts (Nat.zero_add _) h1 h2 h3 h4
    have e3 : wrap64 ((i : Int) + 1) = ((i + 1 : Nat) : Int) := by unfold wrap64; omega
    rw [e3] at a6
    obtain ⟨k, r, b1, b2⟩ := ih (i + 1) n' acts' (by omega) (by omega) a2 (by omega) a4
    obtain ⟨k', hk⟩ := a6 k r b1
    refine ⟨k' + 1, r, ?_, fun e => ?_⟩
    · simp only [towlinelaw05_short.l0]
      rw [if_pos (by omega), if_pos (by omega), if_pos (by omega)]
      exact hk
    · obtain ⟨c1, c2, c3⟩ := b2 e
      have hb := a7 (by omega) (by omega)
      have hd := lsum_drop ls (show i < ls.length by omega)
      rw [List.drop_zero] at hb
      refine ⟨by rw [hd]; omega, by omega, fun j hj hj2 m hm2 => ?_⟩
      by_cases e : j = i
      · subst e; exact a5 (by omega) c2 m (Nat.zero_le _) hm2
      · exact c3 j (by omega) hj2 m hm2
/-- What short says of the lists, and that it says something. -/
theorem short_says (ls : List (List S35)) (hl : ls.length ≤ 9223372036854775807) (hl2 : ∀ l ∈ ls, l.length ≤ 9223372036854775807) :
    ∃ k r, towlinelaw05_short.f k ls = some r ∧ (r = true → lsum ls ≤ 16384 ∧ ∀ l ∈ ls, ∀ x ∈ l, Small x) := by
  obtain ⟨k, r, h1, h2⟩ := outer ls hl hl2 ls.length 0 0 0 (by omega) (by omega) (by omega) (by omega) (by omega)
  refine ⟨k, r, h1, fun e => ?_⟩
  obtain ⟨h4, _, h3⟩ := h2 e
  refine ⟨by rw [List.drop_zero] at h4; omega, fun l hl x hx => ?_⟩
  obtain ⟨j, hj, ej⟩ := List.mem_iff_getElem.1 hl
  obtain ⟨m, hm, em⟩ := List.mem_iff_getElem.1 hx
  have e1 : rd_L5 ls (j : Int) = l := by
    unfold rd_L5
    rw [Int.toNat_natCast, List.getD_eq_getElem?_getD, List.getElem?_eq_getElem hj, ← ej]; rfl
  have h4 := h3 j (Nat.zero_le _) hj m (by rw [e1]; exact hm)
  rw [e1] at h4
  have e2 : rd_T35 l (m : Int) = x := by
    unfold rd_T35
    rw [Int.toNat_natCast, List.getD_eq_getElem?_getD, List.getElem?_eq_getElem hm, ← em]; rfl
  rwa [e2] at h4
end Go.Proofs.Ytehjbhnlbjbhfaa.Dk
