/- What holds of a disk behind each act; the plain disk's laws. -/
import Derived.Test.YtehjbhnlbjbhfaaDkC
namespace Go.Proofs.Ytehjbhnlbjbhfaa.Dk
open Go Go.RowKit Go.Proofs.YtehjbhnlbjbhfaaW.PrintWords Go.Proofs.YtehjbhnlbjbhfaaW.PrintLast Go.Proofs.YtehjbhnlbjbhfaaW.PrintMore
set_option linter.unusedVariables false
def I64 (l : List Int) : Prop := ∀ x ∈ l, -9223372036854775808 ≤ x ∧ x ≤ 9223372036854775807
def Okk (s : DS) : Prop := Ok s ∧ I64 s.keep
theorem fl_setF (s : DS) (h : s.fs.length = 8) {i : Nat} (hi : i < 8) (f : Fl) (j : Nat) : fl (setF s i f) j = if i = j then f else fl s j := by
  unfold fl setF
  rw [List.getD_eq_getElem?_getD, List.getD_eq_getElem?_getD]
  simp only [List.getElem?_set]
  split
  · rename_i e; subst e; rw [if_pos (by omega)]; rfl
  · rfl
theorem Ok.setF {s : DS} (h : Ok s) {i : Nat} (hi : i < 8) {f : Fl} (h1 : f.cl = false → ∃ t, f.seen = f.lasts ++ t) (h2 : f.lasts.length ≤ 4194304) (h3 : f.seen.length ≤ 4194304) : Ok (setF s i f) := by
  refine ⟨by unfold Dk.setF; simp [h.len], ?_, ?_, ?_, h.fuse, h.room, h.keep⟩
  all_goals
    intro x hx
    rcases List.mem_or_eq_of_mem_set hx with hx | rfl
  · exact h.pre x hx
  · exact h1
  · exact h.big x hx
  · exact h2
  · exact h.told x hx
  · exact h3
theorem Ok.burn {s : DS} (h : Ok s) (n : Nat) : Ok (burnS s n) := by
  unfold burnS
  by_cases c : s.set = true ∧ (n : Int) < s.left
  · rw [if_pos c]
    exact ⟨h.len, h.pre, h.big, h.told, fun e => by
      have := h.fuse c.1
      show 1 ≤ s.left - (n : Int) ∧ s.left - (n : Int) ≤ 9223372036854775807
      omega, h.room, h.keep⟩
  · rw [if_neg c]; exact h
theorem burn_fs (s : DS) (n : Nat) : (burnS s n).fs = s.fs ∧ (burnS s n).keep = s.keep ∧ (burnS s n).room = s.room ∧ (burnS s n).off = s.off ∧ (burnS s n).set = s.set := by
  unfold burnS
  split <;> exact ⟨rfl, rfl, rfl, rfl, rfl⟩
theorem fl_burn (s : DS) (n i : Nat) : fl (burnS s n) i = fl s i := by unfold fl; rw [(burn_fs s n).1]
theorem Ok.doneC {s : DS} (h : Ok s) {i : Nat} (hi : i < 8) (n : Nat) : Ok (doneC i s n) := by
  unfold Dk.doneC
  split
  · exact h.setF hi (fun e => by cases e) (show (fl s i).lasts.length ≤ _ from h.big (fl s i) (h.fl_mem hi)) (by simp)
  · exact h
theorem Ok.doneY {s : DS} (h : Ok s) {i : Nat} (hi : i < 8) (n : Nat) : Ok (doneY i s n) := by
  unfold Dk.doneY
  split
  · exact h.setF hi (fun _ => ⟨[], (List.append_nil _).symm⟩) (show (fl s i).seen.length ≤ _ from h.told (fl s i) (h.fl_mem hi)) (show (fl s i).seen.length ≤ _ from h.told (fl s i) (h.fl_mem hi))
  · exact h
theorem Ok.doneA {s : DS} (h : Ok s) {i : Nat} (hi : i < 8) (b : List Int) (n : Nat) (hl : (fl s i).seen.length + b.length ≤ 4194304) : Ok (doneA i b s n) := by
  unfold Dk.doneA
  refine h.setF hi (fun e => ?_) (show (fl s i).lasts.length ≤ _ from h.big (fl s i) (h.fl_mem hi)) (by rw [List.length_append, List.length_take]; omega)
  obtain ⟨t, ht⟩ := h.pre _ (h.fl_mem hi) e
  exact ⟨t ++ b.take n, by rw [ht, List.append_assoc]⟩
theorem after_mem {keep : List Int} : ∀ (l : List Fl) (i : Nat) (f : Fl), f ∈ fallFs keep i l → ∃ f0 ∈ l, ∃ k, f = afterP f0 k := by
  intro l
  induction l with
  | nil => intro i f h; cases h
  | cons a l ih =>
    intro i f h
    rcases List.mem_cons.1 h with h | h
    · exact ⟨a, List.mem_cons_self .., _, h⟩
    · obtain ⟨f0, h1, k, h2⟩ := ih _ _ h
      exact ⟨f0, List.mem_cons_of_mem _ h1, k, h2⟩
theorem fall_len (keep : List Int) : ∀ (l : List Fl) (i : Nat), (fallFs keep i l).length = l.length := by
  intro l
  induction l with
  | nil => intro i; rfl
  | cons a l ih => intro i; simp [fallFs, ih]
theorem after_same (f : Fl) (k : Int) : (afterP f k).seen = (afterP f k).lasts ∧ (afterP f k).cl = false := by
  unfold afterP
  split
  · split <;> exact ⟨rfl, rfl⟩
  · exact ⟨rfl, rfl⟩
theorem after_len {f : Fl} (k : Int) (h1 : f.seen.length ≤ 4194304) (h2 : f.lasts.length ≤ 4194304) : (afterP f k).seen.length ≤ 4194304 := by
  unfold afterP
  split
  · split
    · show (f.seen.take _).length ≤ _; rw [List.length_take]; omega
    · show (f.seen.take _).length ≤ _; rw [List.length_take]; omega
  · exact h2
theorem Ok.fall {s : DS} (h : Ok s) (keep : List Int) : Ok (fallP s keep) := by
  refine ⟨by show (fallFs keep 0 s.fs).length = 8; rw [fall_len]; exact h.len, ?_, ?_, ?_, (fun e => by cases e), h.room, (show (0 : Nat) < 1000000000 by decide)⟩
  all_goals
    intro f hf
    obtain ⟨f0, h0, k, rfl⟩ := after_mem s.fs 0 f hf
  · intro _
    exact ⟨[], by rw [(after_same f0 k).1, List.append_nil]⟩
  · rw [← (after_same f0 k).1]; exact after_len k (h.told _ h0) (h.big _ h0)
  · exact after_len k (h.told _ h0) (h.big _ h0)
theorem Okk.fall {s : DS} (h : Okk s) (keep : List Int) : Okk (fallP s keep) := ⟨h.1.fall keep, fun x hx => by cases hx⟩
theorem act_okk {s : DS} (h : Okk s) (n : Nat) (done : DS → Nat → DS) (h1 : Ok (done (burnS s n) (burnN s n))) (h2 : (done (burnS s n) (burnN s n)).keep = s.keep) : Okk (actP s n done).1 := by
  have h3 : Okk (done (burnS s n) (burnN s n)) := ⟨h1, by rw [h2]; exact h.2⟩
  unfold actP
  split
  · exact h3.fall _
  · exact h3
theorem keepC (i : Nat) (s : DS) (n m : Nat) : (doneC i (burnS s n) m).keep = s.keep := by
  unfold doneC; split <;> exact (burn_fs s n).2.1
theorem keepY (i : Nat) (s : DS) (n m : Nat) : (doneY i (burnS s n) m).keep = s.keep := by
  unfold doneY; split <;> exact (burn_fs s n).2.1
theorem keepA (i : Nat) (b : List Int) (s : DS) (n m : Nat) : (doneA i b (burnS s n) m).keep = s.keep := (burn_fs s n).2.1
theorem Okk.clear {s : DS} (h : Okk s) (i : Int) : Okk (clearP s i).1 := by
  unfold clearP
  by_cases c : ableP s i ≠ 0
  · rw [if_pos c]; exact h
  · rw [if_neg c]
    rcases able_cases s i with d | ⟨_, j, hj, rfl, _, _⟩
    · exact absurd d c
    · rw [Int.toNat_natCast]; exact act_okk h 1 _ ((h.1.burn 1).doneC hj _) (keepC _ _ _ _)
theorem Okk.sync {s : DS} (h : Okk s) (i : Int) : Okk (syncP s i).1 := by
  unfold syncP
  by_cases c : ableP s i ≠ 0
  · rw [if_pos c]; exact h
  · rw [if_neg c]
    rcases able_cases s i with d | ⟨_, j, hj, rfl, _, _⟩
    · exact absurd d c
    · rw [Int.toNat_natCast]; exact act_okk h 1 _ ((h.1.burn 1).doneY hj _) (keepY _ _ _ _)
theorem fits {s : DS} (h : Ok s) {j : Nat} (hj : j < 8) (b : List Int) (c : ¬ s.room < (usedP s : Int) + (b.length : Int)) : (fl s j).seen.length + b.length ≤ 4194304 := by
  have h1 := sum_mem (s.fs.map fun f => f.seen.length) (fl s j).seen.length (List.mem_map.2 ⟨_, h.fl_mem hj, rfl⟩)
  have h2 := h.room
  unfold usedP at c
  omega
theorem Okk.append {s : DS} (h : Okk s) (i : Int) (b : List Int) : Okk (appendP s i b).1 := by
  unfold appendP
  by_cases c : ableP s i ≠ 0
  · rw [if_pos c]; exact h
  · rw [if_neg c]
    by_cases c2 : s.room < (usedP s : Int) + (b.length : Int)
    · rw [if_pos c2]; exact h
    · rw [if_neg c2]
      rcases able_cases s i with d | ⟨_, j, hj, rfl, _, _⟩
      · exact absurd d c
      · rw [Int.toNat_natCast]; exact act_okk h b.length _ ((h.1.burn _).doneA hj b _ (by rw [fl_burn]; exact fits h.1 hj b c2)) (keepA _ _ _ _ _)
theorem Okk.crash {s : DS} (h : Okk s) (keep : List Int) : Okk (crashP s keep).1 := by
  unfold crashP
  split
  · exact h
  · exact h.fall keep
theorem Okk.start {s : DS} (h : Okk s) : Okk (startP s).1 := by
  unfold startP
  split
  · exact h
  · exact ⟨⟨h.1.len, h.1.pre, h.1.big, h.1.told, h.1.fuse, h.1.room, h.1.keep⟩, h.2⟩
theorem Okk.arm {s : DS} (h : Okk s) (n : Int) (keep : List Int) (hn : n ≤ 9223372036854775807) (hk : I64 keep) (hl : keep.length < 1000000000) : Okk (armP s n keep).1 := by
  unfold armP
  split
  · exact h
  · split
    · exact h
    · exact ⟨⟨h.1.len, h.1.pre, h.1.big, h.1.told, fun _ => ⟨by show 1 ≤ n; omega, hn⟩, h.1.room, hl⟩, hk⟩
theorem newP_okk (room : Int) (h : 0 ≤ room ∧ room ≤ 4194304) : Okk (newP room) := by
  refine ⟨⟨rfl, ?_, ?_, ?_, (fun e => by cases e), h, (show (0 : Nat) < 1000000000 by decide)⟩, fun x hx => by cases hx⟩
  all_goals
    intro f hf
    have : f = nf := List.eq_of_mem_replicate hf
    subst this
  · intro _; exact ⟨[], rfl⟩
  · decide
  · decide
/-- A call. -/
structure Dd where
  op : Int
  i : Int
  n : Int
  b : List Int
  keep : List Int
def kind (op : Int) : Int := (op % 18446744073709551616) % 9
def doesP (s : DS) (k : Dd) : DS × Int :=
  if kind k.op = 4 then clearP s k.i else if kind k.op = 5 then syncP s k.i else if kind k.op = 6 then crashP s k.keep else if kind k.op = 7 then startP s else if kind k.op = 8 then armP s k.n k.keep else appendP s k.i k.b
def Dd.ok (k : Dd) : Prop := (-9223372036854775808 ≤ k.n ∧ k.n ≤ 9223372036854775807) ∧ I64 k.keep ∧ k.keep.length < 1000000000 ∧ k.b.length < 1000000000
theorem Okk.does {s : DS} (h : Okk s) (k : Dd) (hk : k.ok) : Okk (doesP s k).1 := by
  unfold doesP
  split
  · exact h.clear _
  · split
    · exact h.sync _
    · split
      · exact h.crash _
      · split
        · exact h.start
        · split
          · exact h.arm _ _ hk.1.2 hk.2.1 hk.2.2.1
          · exact h.append _ _
def madeP (l : List Dd) : DS := l.foldl (fun s k => (doesP s k).1) (newP 2097152)
end Go.Proofs.Ytehjbhnlbjbhfaa.Dk
