/- Plain laws: a record that is opened has the bytes that would be sealed. -/
import Derived.Test.YtleaiojilmkhaaaPlainY
namespace Go.Proofs.Ytleaiojilmkhaaa.Wire
open Go Go.RowKit Go.Proofs.YtleaiojilmkhaaaW.PrintWords Go.Proofs.YtleaiojilmkhaaaW.PrintLast Go.Proofs.YtleaiojilmkhaaaW.PrintMore
set_option linter.unusedVariables false
theorem bytes_canon {s d : List Int} {a : Nat} (hb : Bs s) (h : bytesP s 0 8192 = (d, a, 0)) : d.length ≤ 8192 ∧ a ≤ s.length ∧ recP d = s.take a := by
  unfold bytesP at h
  rw [List.drop_zero] at h
  by_cases c0 : (num s).2.2 ≠ 0
  · rw [if_pos c0] at h; exact absurd (congrArg (fun z => z.2.2) h) c0
  · rw [if_neg c0] at h
    have c0' : (num s).2.2 = 0 := Decidable.not_not.1 c0
    have hc := num_canon hb c0'
    have hle := num_le c0'
    generalize num s = q at *
    by_cases c1 : (if (8192 : Int) < 0 then (0 : Int) else 8192) < (q.1 : Int)
    · rw [if_pos c1] at h; exact absurd (show (4 : Int) = 0 from congrArg (fun z => z.2.2) h) (by decide)
    · rw [if_neg c1] at h
      by_cases c2 : s.length < 0 + q.2.1 + q.1
      · rw [if_pos c2] at h; exact absurd (show (2 : Int) = 0 from congrArg (fun z => z.2.2) h) (by decide)
      · rw [if_neg c2] at h
        have h1 : (s.drop (0 + q.2.1)).take q.1 = d := congrArg (fun z => z.1) h
        have h2 : 0 + q.2.1 + q.1 = a := congrArg (fun z => z.2.1) h
        have c1' : q.1 ≤ 8192 := by rw [if_neg (by decide)] at c1; omega
        rw [Nat.zero_add] at h1 h2
        have hl : d.length = q.1 := by rw [← h1, List.length_take, List.length_drop]; omega
        refine ⟨by omega, by omega, ?_⟩
        unfold recP
        rw [hl, hc, ← h1, ← h2, List.take_add]
theorem open_canon {l d : List Int} {n : Nat} (hb : Bs l) (h : openP l = (d, n, 0)) : d.length ≤ 8192 ∧ n ≤ l.length ∧ sealP d = l.take n := by
  unfold openP at h
  have hbc := fun d a => @bytes_canon (l.take 8208) d a (hb.take 8208)
  generalize bytesP (l.take 8208) 0 8192 = q at *
  obtain ⟨d', a, e⟩ := q
  simp only at h hbc
  by_cases c0 : e ≠ 0
  · rw [if_pos c0] at h
    exact absurd (congrArg (fun z => z.2.2) h) c0
  · rw [if_neg c0] at h
    have c0' : e = 0 := Decidable.not_not.1 c0
    subst c0'
    by_cases c1 : l.length < a + 4
    · rw [if_pos c1] at h
      exact absurd (show (2 : Int) = 0 from congrArg (fun z => z.2.2) h) (by decide)
    · rw [if_neg c1] at h
      by_cases c2 : fourP (sumP (l.take a)) = (l.drop a).take 4
      · rw [if_pos c2] at h
        have h1 : a + 4 = n := congrArg (fun z => z.2.1) h
        have h2 : d' = d := congrArg (fun z => z.1) h
        subst h2
        obtain ⟨b1, b2, b3⟩ := hbc d' a rfl
        rw [List.length_take] at b2
        refine ⟨b1, by omega, ?_⟩
        unfold sealP
        rw [b3, List.take_take, Nat.min_eq_left (by omega), c2, ← h1, List.take_add]
      · rw [if_neg c2] at h
        exact absurd (show (11 : Int) = 0 from congrArg (fun z => z.2.2) h) (by decide)
theorem open_err {l : List Int} (h : (openP l).2.2 ≠ 0) : openP l = ([], 0, (openP l).2.2) := by
  unfold openP at h ⊢
  generalize bytesP (l.take 8208) 0 8192 = q at *
  by_cases c0 : q.2.2 ≠ 0
  · rw [if_pos c0]
  · rw [if_neg c0] at h ⊢
    by_cases c1 : l.length < q.2.1 + 4
    · rw [if_pos c1]
    · rw [if_neg c1] at h ⊢
      by_cases c2 : fourP (sumP (l.take q.2.1)) = (l.drop q.2.1).take 4
      · rw [if_pos c2] at h; exact absurd rfl h
      · rw [if_neg c2]
end Go.Proofs.Ytleaiojilmkhaaa.Wire
