/- The statement TapeAgain is proved, for every input, without a condition; ahead of it the last contracts and plain laws that it rests on. -/
import Derived.Test.YtehjbhnlbjbhfaaBnTapeAgain5
import Derived.Lib.SmallJoins
import Derived.SizedLaws
import Derived.ChangeSlices
import Derived.Test.YtehjbhnlbjbhfaaRows
import Derived.WalkKit
import Derived.ProofKit
import Derived.OpenShut
import Derived.ShutString
import Derived.ChangeOld
import Derived.Below
-- TpT
namespace Go.Proofs.Ytehjbhnlbjbhfaa.Tp
open Go Go.RowKit Go.Proofs.YtehjbhnlbjbhfaaW.PrintWords Go.Proofs.YtehjbhnlbjbhfaaW.PrintLast Go.Proofs.YtehjbhnlbjbhfaaW.PrintMore Go.Proofs.Ytehjbhnlbjbhfaa.Wire Go.Proofs.Ytehjbhnlbjbhfaa.Wk Go.Proofs.Ytehjbhnlbjbhfaa.Dk
set_option linter.unusedVariables false
structure Calm (s : DS) : Prop where
  room : s.room ≠ 0
  on : s.off = false
  set : s.set = false
  len : s.fs.length = 8
theorem Calm.setF {s : DS} (h : Calm s) (i : Nat) (f : Fl) : Calm (setF s i f) := ⟨h.room, h.on, h.set, by show (s.fs.set i f).length = 8; rw [List.length_set]; exact h.len⟩
theorem calm_act {s : DS} (h : Calm s) (n : Nat) (done : DS → Nat → DS) : actP s n done = (done s n, 0) := by
  unfold actP struckP burnS burnN
  rw [h.set]
  simp
theorem calm_append {s : DS} (h : Calm s) {j : Nat} (hj : j < 8) (b : List Int) : appendP s (j : Int) b = if s.room < (usedP s : Int) + (b.length : Int) then (s, 7) else (setF s j ⟨(fl s j).seen ++ b, (fl s j).lasts, (fl s j).cl⟩, 0) := by
  unfold appendP
  rw [if_neg (fun e => e (able_on hj h.room h.on)), calm_act h, Int.toNat_natCast]
  unfold doneA
  rw [List.take_length]
theorem calm_clear {s : DS} (h : Calm s) {j : Nat} (hj : j < 8) : clearP s (j : Int) = (setF s j ⟨[], (fl s j).lasts, true⟩, 0) := by
  unfold clearP
  rw [if_neg (fun e => e (able_on hj h.room h.on)), calm_act h, Int.toNat_natCast]
  unfold doneC
  rw [if_pos rfl]
theorem calm_sync {s : DS} (h : Calm s) {j : Nat} (hj : j < 8) : syncP s (j : Int) = (setF s j ⟨(fl s j).seen, (fl s j).seen, false⟩, 0) := by
  unfold syncP
  rw [if_neg (fun e => e (able_on hj h.room h.on)), calm_act h, Int.toNat_natCast]
  unfold doneY
  rw [if_pos rfl]
structure Wrote (r : Reel) (b : List Int) : Prop where
  gen : 1 ≤ r.gen ∧ r.gen ≤ 1099511627776
  base : r.base.length ≤ 8176
  bb : Bs r.base
  bl : ∀ d ∈ r.l, Bs d ∧ d.length ≤ 8192
  ex : ∃ many : Nat, many ≤ r.l.length ∧ many ≤ 1099511627776 ∧ (headB r.gen many r.base).length ≤ 8192 ∧ b = (headB r.gen many r.base :: r.l).flatMap sealP
structure TOk (t : TS) (s : DS) : Prop where
  calm : Calm s
  file : t.file ≤ 1
  wrote : Wrote t.r (fl s t.file).seen
  other : (readT (fl s (1 - t.file)).seen).1.gen < t.r.gen
theorem headB_bs {gen many : Int} {base : List Int} (hg : 0 ≤ gen ∧ gen < 18446744073709551616) (hm : 0 ≤ many ∧ many < 18446744073709551616) (hb : Bs base) (hl : base.length < 18446744073709551616) : Bs (headB gen many base) := by
  refine (encs_bs ?_).app (rec_bs hb hl)
  intro x hx
  rcases List.mem_cons.1 hx with rfl | hx
  · exact hg
  · rcases List.mem_cons.1 hx with rfl | hx
    · exact hm
    · cases hx
theorem flat_bs {ls : List (List Int)} (h : ∀ d ∈ ls, Bs d ∧ d.length ≤ 8192) : Bs (ls.flatMap sealP) := by
  intro x hx
  obtain ⟨d, hd, hx⟩ := List.mem_flatMap.1 hx
  exact seal_bs (h d hd).1 (by have := (h d hd).2; omega) x hx
theorem Wrote.recs {r : Reel} {b : List Int} (h : Wrote r b) {many : Nat} (h2 : many ≤ 1099511627776) (h3 : (headB r.gen many r.base).length ≤ 8192) : ∀ d ∈ headB r.gen many r.base :: r.l, Bs d ∧ d.length ≤ 8192 := by
  intro d hd
  rcases List.mem_cons.1 hd with rfl | hd
  · exact ⟨headB_bs (by have := h.gen; omega) (by omega) h.bb (by have := h.base; omega), h3⟩
  · exact h.bl d hd
theorem Wrote.bs {r : Reel} {b : List Int} (h : Wrote r b) : Bs b := by
  obtain ⟨many, h1, h2, h3, rfl⟩ := h.ex
  exact flat_bs (h.recs h2 h3)
theorem Wrote.read {r : Reel} {b : List Int} (h : Wrote r b) : readT b = (r, false) := by
  have hbs := h.bs
  obtain ⟨many, h1, h2, h3, rfl⟩ := h.ex
  have := readT_recs (gen := r.gen) (many := many) (base := r.base) (l := r.l) (rest := []) (by rw [List.append_nil]; exact hbs) h3 (fun d hd => (h.bl d hd).2) open_nil h.gen (by omega) h.base
  rw [List.append_nil, if_neg (by omega)] at this
  rw [this]
  simp
theorem Wrote.len {r : Reel} {b : List Int} (h : Wrote r b) : (r.l.flatMap sealP).length ≤ b.length := by
  obtain ⟨many, _, _, _, rfl⟩ := h.ex
  rw [List.flatMap_cons, List.length_append]; omega
theorem Wrote.put {r : Reel} {b : List Int} (h : Wrote r b) {d : List Int} (hd : Bs d ∧ d.length ≤ 8192) : Wrote ⟨r.gen, r.base, r.l ++ [d]⟩ (b ++ sealP d) := by
  obtain ⟨many, h1, h2, h3, h4⟩ := h.ex
  refine ⟨h.gen, h.base, h.bb, fun x hx => ?_, many, by show many ≤ (r.l ++ [d]).length; rw [List.length_append]; omega, h2, h3, ?_⟩
  · rcases List.mem_append.1 hx with hx | hx
    · exact h.bl x hx
    · rw [List.mem_singleton.1 hx]; exact hd
  · rw [h4]
    simp [List.append_assoc]
theorem tooLong_not {l : List (List Int)} (h : ¬ tooLong l = true) : ∀ d ∈ l, d.length ≤ 8192 := by
  intro d hd
  by_cases c : d.length ≤ 8192
  · exact c
  · refine absurd ?_ h
    unfold tooLong
    rw [List.any_eq_true]
    exact ⟨d, hd, by simpa using c⟩
theorem picked_of {s : DS} {r : Reel} {f : Nat} (hf : f ≤ 1) (h1 : readT (fl s f).seen = (r, false)) (h2 : (readT (fl s (1 - f)).seen).1.gen < r.gen) (h0 : 0 < r.gen) : (picked s).1.r = r ∧ (picked s).1.file = f ∧ (picked s).2 = false := by
  have h3 : f = 0 ∨ f = 1 := by omega
  unfold picked pick
  rcases h3 with rfl | rfl
  · simp only [Nat.sub_zero] at h2
    simp only
    rw [h1]
    rw [if_pos (show noReel.gen < _ from h0)]
    simp only
    rw [if_neg (by omega)]
    exact ⟨rfl, rfl, rfl⟩
  · simp only [Nat.sub_self] at h2
    simp only
    by_cases c : noReel.gen < (readT (fl s 0).seen).1.gen
    · rw [if_pos c, h1]
      simp only
      rw [if_pos h2]
      exact ⟨rfl, rfl, rfl⟩
    · rw [if_neg c, h1]
      simp only
      rw [if_pos (show noReel.gen < _ from h0)]
      exact ⟨rfl, rfl, rfl⟩
theorem TOk.opens {t : TS} {s : DS} (h : TOk t s) : openT s = (some ⟨t.r, t.file, t.r.l.length⟩, s, 0) := by
  obtain ⟨p1, p2, p3⟩ := picked_of h.file h.wrote.read h.other (by have := h.wrote.gen; omega)
  unfold openT
  rw [if_neg (fun e => e (able_on (j := 0) (by decide) h.calm.room h.calm.on))]
  simp only
  rw [p1, p2, p3, if_neg (fun e => e.elim (fun e => by have := h.wrote.gen; omega) (fun e => by cases e))]
theorem TOk.put {t : TS} {s : DS} (h : TOk t s) {d : List Int} (hd : Bs d) : TOk (putP t s d).1 (putP t s d).2.1 ∧ ((putP t s d).2.2 ≠ 0 → putP t s d = (t, s, (putP t s d).2.2)) := by
  unfold putP
  by_cases c : 8192 < d.length
  · rw [if_pos c]; exact ⟨h, fun _ => rfl⟩
  · rw [if_neg c, calm_append h.calm (show t.file < 8 by have := h.file; omega)]
    by_cases c2 : s.room < (usedP s : Int) + ((sealP d).length : Int)
    · rw [if_pos c2]; exact ⟨h, fun _ => rfl⟩
    · rw [if_neg c2]
      simp only
      rw [if_neg (fun e => e rfl)]
      have hlt : t.file < 8 := by have := h.file; omega
      refine ⟨⟨h.calm.setF _ _, h.file, ?_, ?_⟩, fun e => absurd rfl e⟩
      · show Wrote _ (fl (setF s t.file _) t.file).seen
        rw [fl_setF s h.calm.len hlt, if_pos rfl]
        exact h.wrote.put ⟨hd, by omega⟩
      · show (readT (fl (setF s t.file _) (1 - t.file)).seen).1.gen < _
        rw [fl_setF s h.calm.len hlt, if_neg (by have := h.file; omega)]
        exact h.other
theorem TOk.sync {t : TS} {s : DS} (h : TOk t s) : TOk (syncT t s).1 (syncT t s).2.1 ∧ (syncT t s).1.r = t.r := by
  have hlt : t.file < 8 := by have := h.file; omega
  unfold syncT
  rw [calm_sync h.calm hlt]
  simp only
  rw [if_neg (fun e => e rfl)]
  refine ⟨⟨h.calm.setF _ _, h.file, ?_, ?_⟩, rfl⟩
  · show Wrote _ (fl (setF s t.file _) t.file).seen
    rw [fl_setF s h.calm.len hlt, if_pos rfl]
    exact h.wrote
  · show (readT (fl (setF s t.file _) (1 - t.file)).seen).1.gen < _
    rw [fl_setF s h.calm.len hlt, if_neg (by have := h.file; omega)]
    exact h.other
theorem headE_err {gen many : Int} {base : List Int} (h : (headE gen many base).2 ≠ 0) : (headE gen many base).2 = 4 := by
  unfold headE sealE at *
  split at h
  · rename_i c; rw [if_pos c]
  · exact absurd rfl h
theorem save_calm {t : TS} {s : DS} (hc : Calm s) (hf : t.file ≤ 1) (hg : 0 ≤ t.r.gen) (hr : (readT (fl s t.file).seen).1.gen ≤ t.r.gen) {base : List Int} {l : List (List Int)} (hb : Bs base) (hl : ∀ d ∈ l, Bs d) (hn : l.length ≤ 1099511627776) :
    ((saveP t s base l).2.2 = 0 ∧ (saveP t s base l).1 = ⟨⟨t.r.gen + 1, base, l⟩, 1 - t.file, l.length⟩ ∧ TOk (saveP t s base l).1 (saveP t s base l).2.1) ∨
    ((saveP t s base l).2.2 ≠ 0 ∧ (saveP t s base l).1 = t ∧ (((saveP t s base l).2.1 = s ∧ ((saveP t s base l).2.2 = 5 ∨ (saveP t s base l).2.2 = 4)) ∨ (saveP t s base l).2.1 = setF s (1 - t.file) ⟨[], (fl s (1 - t.file)).lasts, true⟩ ∧ (saveP t s base l).2.2 = 7 ∧ s.room < (usedP (setF s (1 - t.file) ⟨[], (fl s (1 - t.file)).lasts, true⟩) : Int) + (((headE (t.r.gen + 1) (l.length : Int) base).1 ++ l.flatMap sealP).length : Int))) := by
  unfold saveP
  by_cases c1 : 1099511627776 ≤ t.r.gen
  · rw [if_pos c1]; exact .inr ⟨(show (5 : Int) ≠ 0 by decide), rfl, .inl ⟨rfl, .inl rfl⟩⟩
  · rw [if_neg c1]
    by_cases c2 : 8176 < base.length
    · rw [if_pos c2]; exact .inr ⟨(show (4 : Int) ≠ 0 by decide), rfl, .inl ⟨rfl, .inr rfl⟩⟩
    · rw [if_neg c2]
      by_cases c3 : (headE (t.r.gen + 1) (l.length : Int) base).2 ≠ 0
      · rw [if_pos c3]; exact .inr ⟨c3, rfl, .inl ⟨rfl, .inr (headE_err c3)⟩⟩
      · rw [if_neg c3]
        by_cases c4 : tooLong l = true
        · rw [if_pos c4]; exact .inr ⟨(show (4 : Int) ≠ 0 by decide), rfl, .inl ⟨rfl, .inr rfl⟩⟩
        · rw [if_neg c4]
          obtain ⟨q1, q2⟩ := headE_zero (Decidable.of_not_not c3)
          have hlt : 1 - t.file < 8 := by omega
          have hcs : ((1 : Int) - (t.file : Int)) = ((1 - t.file : Nat) : Int) := by omega
          have hc1 : Calm (setF s (1 - t.file) ⟨[], (fl s (1 - t.file)).lasts, true⟩) := hc.setF _ _
          unfold saveW
          simp only
          rw [hcs, calm_clear hc hlt]
          simp only
          rw [if_neg (fun e => e rfl), calm_append hc1 hlt]
          by_cases c5 : (setF s (1 - t.file) ⟨[], (fl s (1 - t.file)).lasts, true⟩).room < (usedP (setF s (1 - t.file) ⟨[], (fl s (1 - t.file)).lasts, true⟩) : Int) + (((headE (t.r.gen + 1) (l.length : Int) base).1 ++ l.flatMap sealP).length : Int)
          · rw [if_pos c5]
            simp only
            rw [if_pos (show (7 : Int) ≠ 0 by decide)]
            exact .inr ⟨(show (7 : Int) ≠ 0 by decide), rfl, .inr ⟨rfl, rfl, c5⟩⟩
          · rw [if_neg c5]
            simp only
            rw [if_neg (fun e => e rfl), calm_sync (hc1.setF _ _) hlt]
            simp only
            rw [if_neg (fun e => e rfl)]
            refine .inl ⟨rfl, rfl, (hc1.setF _ _).setF _ _, by show 1 - t.file ≤ 1; omega, ?_, ?_⟩
            · show Wrote _ (fl (setF (setF (setF s (1 - t.file) _) (1 - t.file) _) (1 - t.file) _) (1 - t.file)).seen
              rw [fl_setF _ (hc1.setF _ _).len hlt, if_pos rfl]
              show Wrote _ (fl (setF (setF s (1 - t.file) _) (1 - t.file) _) (1 - t.file)).seen
              rw [fl_setF _ hc1.len hlt, if_pos rfl]
              show Wrote _ ((fl (setF s (1 - t.file) _) (1 - t.file)).seen ++ _)
              rw [fl_setF _ hc.len hlt, if_pos rfl]
              refine ⟨⟨by show 1 ≤ t.r.gen + 1; omega, by show t.r.gen + 1 ≤ _; omega⟩, by show base.length ≤ _; omega, hb, fun d hd => ⟨hl d hd, tooLong_not c4 d hd⟩, l.length, Nat.le_refl _, hn, q1, ?_⟩
              rw [q2, List.flatMap_cons]
              simp
            · show (readT (fl (setF (setF (setF s (1 - t.file) _) (1 - t.file) _) (1 - t.file) _) (1 - (1 - t.file))).seen).1.gen < t.r.gen + 1
              have hne : 1 - t.file ≠ 1 - (1 - t.file) := by omega
              rw [fl_setF _ (hc1.setF _ _).len hlt, if_neg hne, fl_setF _ hc1.len hlt, if_neg hne, fl_setF _ hc.len hlt, if_neg hne, show 1 - (1 - t.file) = t.file by omega]
              omega
theorem open_again {s s' : DS} {x : TS} (hc : Calm s) (hb : BsD s) (hok : Ok s) (h : openT s = (some x, s', 0)) : openT s' = (some x, s', 0) := by
  have h0 := h
  unfold openT at h0
  rw [if_neg (fun e => e (able_on (j := 0) (by decide) hc.room hc.on))] at h0
  simp only at h0
  split at h0
  · rename_i cd
    split at h0
    · exact absurd h0 (by simp)
    · rename_i ce
      injection h0 with e1 e2
      injection e2 with e2 e3
      injection e1 with e1
      have hro := pk_rok hb hok 2 (by decide)
      rw [pk_two] at hro
      have hfi : (picked s).1.file ≤ 1 := by rcases pk_ok hb hok 2 with h | h <;> rw [pk_two] at h <;> omega
      have hrd : (readT (fl s (picked s).1.file).seen).1.gen ≤ (picked s).1.r.gen := by
        unfold picked pick
        simp only
        split <;> rename_i c1
        · split <;> rename_i c2 <;> simp only at * <;> omega
        · split <;> rename_i c2 <;> simp only at * <;> omega
      have hll : (picked s).1.r.l.length ≤ 1099511627776 := by
        have := hro.1.all
        have := flat_len (picked s).1.r.l
        omega
      rcases save_calm (t := ⟨(picked s).1.r, (picked s).1.file, (picked s).1.r.l.length⟩) hc hfi hro.1.gen.1 hrd hro.1.bb (fun d hd => (hro.1.bl d hd).1) hll with ⟨h1, h2, h3⟩ | ⟨h1, _⟩
      · rw [e1, e2] at h3
        rw [h3.opens]
        rw [e1] at h2
        rw [h2]
      · exact absurd (Decidable.of_not_not ce) h1
  · injection h0 with e1 e2
    injection e2 with e2 e3
    rw [← e2, h, e2]
end Go.Proofs.Ytehjbhnlbjbhfaa.Tp
-- TpU
namespace Go.Proofs.Ytehjbhnlbjbhfaa.Tp
open Go Go.RowKit Go.Proofs.YtehjbhnlbjbhfaaW.PrintWords Go.Proofs.YtehjbhnlbjbhfaaW.PrintLast Go.Proofs.YtehjbhnlbjbhfaaW.PrintMore Go.Proofs.Ytehjbhnlbjbhfaa.Wire Go.Proofs.Ytehjbhnlbjbhfaa.Wk Go.Proofs.Ytehjbhnlbjbhfaa.Dk
open Go.Proofs.Ytehjbhnlbjbhfaa.PTapePlays
set_option linter.unusedVariables false
set_option linter.unusedSimpArgs false
abbrev TD := S79
structure TSmall (x : TD) : Prop where
  b : x.f2.length ≤ 16384
  keep : x.f4.length ≤ 16384
  many : 4 * x.f3.length ≤ 16384
  l : ∀ d ∈ x.f3, d.length ≤ 16384
theorem mnn (a : Nat) : 0 ≤ mn (a : Int) 16385 ∧ mn (a : Int) 16385 ≤ 16385 ∧ (mn (a : Int) 16385 ≤ 16384 → a ≤ 16384) := by
  unfold mn
  split <;> omega
theorem inner2 (x6 : List TD) (x7 : Nat) (acts : Int) (x9 : List (List TD)) (x10 x11 : Int) (h7 : x7 < x6.length) (hm : x6.length ≤ 9223372036854775807) (hl : (rd_T79 x6 (x7 : Int)).f3.length ≤ 9223372036854775807) : ∀ (d j : Nat) (n : Int), j + d = (rd_T79 x6 (x7 : Int)).f3.length → 0 ≤ n → n ≤ 49154 →
    ∃ n' : Int, n ≤ n' ∧ n' ≤ 49154 ∧ (n' ≤ 16384 → n + 4 * (d : Int) ≤ n' ∧ ∀ q : Nat, j ≤ q → q < (rd_T79 x6 (x7 : Int)).f3.length → (rd_L1 (rd_T79 x6 (x7 : Int)).f3 (q : Int)).length ≤ 16384) ∧
      ∀ k r, towlinelaw06_short.l1 k n' acts x6 ((x7 + 1 : Nat) : Int) x9 x10 x11 = some r → ∃ k', towlinelaw06_short.l2 k' n acts x6 (x7 : Int) (j : Int) x9 x10 x11 = some r := by
  have ew : wrap64 ((x7 : Int) + 1) = ((x7 + 1 : Nat) : Int) := by unfold wrap64; omega
  intro d
  induction d with
  | zero =>
    intro j n hj h1 h2
    refine ⟨n, Int.le_refl _, h2, fun _ => ⟨by omega, fun q hq hq2 => by omega⟩, fun k r h => ⟨k + 1, ?_⟩⟩
    simp only [towlinelaw06_short.l2]
    rw [if_pos (by omega), if_pos (by omega), if_neg (by omega), ew]
    exact h
  | succ d ih =>
    intro j n hj h1 h2
    by_cases cn : n ≤ 16384
    · obtain ⟨p1, p2, p3⟩ := mnn (rd_L1 (rd_T79 x6 (x7 : Int)).f3 (j : Int)).length
      have e1 : wrap64 (n + (4 + mn ((rd_L1 (rd_T79 x6 (x7 : Int)).f3 (j : Int)).length : Int) 16385)) = n + (4 + mn ((rd_L1 (rd_T79 x6 (x7 : Int)).f3 (j : Int)).length : Int) 16385) := by unfold wrap64; omega
      have e3 : wrap64 ((j : Int) + 1) = ((j + 1 : Nat) : Int) := by unfold wrap64; omega
      obtain ⟨n', a1, a2, a3, a4⟩ := ih (j + 1) (n + (4 + mn ((rd_L1 (rd_T79 x6 (x7 : Int)).f3 (j : Int)).length : Int) 16385)) (by omega) (by omega) (by omega)
      refine ⟨n', by omega, a2, fun b => ⟨by have := (a3 b).1; omega, fun q hq hq2 => ?_⟩, fun k r h => ?_⟩
      · by_cases e : q = j
        · subst e; exact p3 (by omega)
        · exact (a3 b).2 q (by omega) hq2
      · obtain ⟨k', hk⟩ := a4 k r h
        refine ⟨k' + 1, ?_⟩
        simp only [towlinelaw06_short.l2]
        rw [if_pos (by omega), if_pos (by omega), if_pos (by omega), if_pos cn, if_pos (by omega), e1, e3]
        exact hk
    · refine ⟨n, Int.le_refl _, h2, fun b => absurd b cn, fun k r h => ⟨k + 1, ?_⟩⟩
      simp only [towlinelaw06_short.l2]
      rw [if_pos (by omega), if_pos (by omega), if_pos (by omega), if_neg cn, ew]
      exact h
theorem inner1 (x9 : List (List TD)) (x10 x11 : Int) (l : List TD) (hl : l.length ≤ 9223372036854775807) (hl3 : ∀ x ∈ l, x.f3.length ≤ 9223372036854775807) : ∀ (d i : Nat) (n acts : Int), i + d = l.length → 0 ≤ n → n ≤ 49154 → 0 ≤ acts → acts ≤ 61 →
    ∃ n' acts' : Int, n ≤ n' ∧ n' ≤ 49154 ∧ acts ≤ acts' ∧ acts' ≤ 61 ∧ (n' ≤ 16384 → acts' ≤ 60 → acts + (d : Int) ≤ acts' ∧ ∀ j, i ≤ j → j < l.length → TSmall (rd_T79 l (j : Int))) ∧
      ∀ k r, towlinelaw06_short.l0 k n' acts' x9 x10 (wrap64 (x11 + 1)) = some r → ∃ k', towlinelaw06_short.l1 k' n acts l (i : Int) x9 x10 x11 = some r := by
  intro d
  induction d with
  | zero =>
    intro i n acts hi h1 h2 h3 h4
    refine ⟨n, acts, Int.le_refl _, h2, Int.le_refl _, h4, fun _ _ => ⟨by omega, fun j hj hj2 => by omega⟩, fun k r h => ⟨k + 1 + 1, ?_⟩⟩
    simp only [towlinelaw06_short.l1]
    rw [if_neg (by omega)]
    simp only [towlinelaw06_short.j2]
    rw [if_neg (by decide)]
    exact h
  | succ d ih =>
    intro i n acts hi h1 h2 h3 h4
    by_cases ca : acts ≤ 60
    · by_cases cn : n ≤ 16384
      · obtain ⟨p1, p2, p3⟩ := mnn (rd_T79 l (i : Int)).f2.length
        obtain ⟨q1, q2, q3⟩ := mnn (rd_T79 l (i : Int)).f4.length
        have e1 : wrap64 (n + (mn ((rd_T79 l (i : Int)).f2.length : Int) 16385 + mn ((rd_T79 l (i : Int)).f4.length : Int) 16385)) = n + (mn ((rd_T79 l (i : Int)).f2.length : Int) 16385 + mn ((rd_T79 l (i : Int)).f4.length : Int) 16385) := by unfold wrap64; omega
        have e2 : wrap64 (acts + 1) = acts + 1 := by unfold wrap64; omega
        have hmem : rd_T79 l (i : Int) ∈ l := by
          unfold rd_T79
          rw [Int.toNat_natCast, List.getD_eq_getElem?_getD, List.getElem?_eq_getElem (by omega)]
          exact List.getElem_mem _
        obtain ⟨n2, b1, b2, b3, b4⟩ := inner2 l i (acts + 1) x9 x10 x11 (by omega) hl (hl3 _ hmem) (rd_T79 l (i : Int)).f3.length 0 (n + (mn ((rd_T79 l (i : Int)).f2.length : Int) 16385 + mn ((rd_T79 l (i : Int)).f4.length : Int) 16385)) (by omega) (by omega) (by omega)
        obtain ⟨n', acts', a1, a2, a3, a4, a5, a6⟩ := ih (i + 1) n2 (acts + 1) (by omega) (by omega) b2 (by omega) (by omega)
        refine ⟨n', acts', by omega, a2, by omega, a4, fun c1 c2 => ⟨by have := (a5 c1 c2).1; omega, fun j hj hj2 => ?_⟩, fun k r h => ?_⟩
        · by_cases e : j = i
          · subst e
            obtain ⟨d1, d2⟩ := b3 (by omega)
            refine ⟨p3 (by omega), q3 (by omega), by omega, fun x hx => ?_⟩
            obtain ⟨q, hq, eq⟩ := List.mem_iff_getElem.1 hx
            have := d2 q (Nat.zero_le _) hq
            unfold rd_L1 at this
            rw [Int.toNat_natCast, List.getD_eq_getElem?_getD, List.getElem?_eq_getElem hq] at this
            rw [← eq]; exact this
          · exact (a5 c1 c2).2 j (by omega) hj2
        · obtain ⟨k', hk⟩ := a6 k r h
          obtain ⟨k2, hk2⟩ := b4 k' r hk
          refine ⟨k2 + 1 + 1, ?_⟩
          simp only [towlinelaw06_short.l1]
          rw [if_pos (by omega), if_pos ca, decide_eq_true cn]
          simp only [towlinelaw06_short.j2]
          rw [if_pos trivial, if_pos (by omega), if_pos (by omega), e1, e2]
          exact hk2
      · refine ⟨n, acts, Int.le_refl _, h2, Int.le_refl _, h4, fun b _ => absurd b cn, fun k r h => ⟨k + 1 + 1, ?_⟩⟩
        simp only [towlinelaw06_short.l1]
        rw [if_pos (by omega), if_pos ca, decide_eq_false cn]
        simp only [towlinelaw06_short.j2]
        rw [if_neg (by decide)]
        exact h
    · refine ⟨n, acts, Int.le_refl _, h2, Int.le_refl _, h4, fun _ b => absurd b ca, fun k r h => ⟨k + 1 + 1, ?_⟩⟩
      simp only [towlinelaw06_short.l1]
      rw [if_pos (by omega), if_neg ca]
      simp only [towlinelaw06_short.j2]
      rw [if_neg (by decide)]
      exact h
theorem outer1 (ls : List (List TD)) (hl : ls.length ≤ 9223372036854775807) (hl2 : ∀ l ∈ ls, l.length ≤ 9223372036854775807 ∧ ∀ x ∈ l, x.f3.length ≤ 9223372036854775807) : ∀ (d i : Nat) (n acts : Int), i + d = ls.length → 0 ≤ n → n ≤ 49154 → 0 ≤ acts → acts ≤ 61 →
    ∃ k r, towlinelaw06_short.l0 k n acts ls (ls.length : Int) (i : Int) = some r ∧ (r = true → n ≤ 16384 ∧ acts ≤ 60 ∧ ∀ j, i ≤ j → j < ls.length → (rd_L8 ls (j : Int)).length ≤ 60 ∧ ∀ m, m < (rd_L8 ls (j : Int)).length → TSmall (rd_T79 (rd_L8 ls (j : Int)) (m : Int))) := by
  intro d
  induction d with
  | zero =>
    intro i n acts hi h1 h2 h3 h4
    by_cases ca : acts ≤ 60
    · refine ⟨1, decide (n ≤ 16384), ?_, fun e => ⟨of_decide_eq_true e, ca, fun j hj hj2 => by omega⟩⟩
      simp only [towlinelaw06_short.l0]
      rw [if_neg (by omega), if_pos ca]
    · refine ⟨1, false, ?_, fun e => by cases e⟩
      simp only [towlinelaw06_short.l0]
      rw [if_neg (by omega), if_neg ca]
  | succ d ih =>
    intro i n acts hi h1 h2 h3 h4
    have hm : rd_L8 ls (i : Int) ∈ ls := by
      unfold rd_L8
      rw [Int.toNat_natCast, List.getD_eq_getElem?_getD, List.getElem?_eq_getElem (by omega)]
      exact List.getElem_mem _
    obtain ⟨n', acts', a1, a2, a3, a4, a5, a6⟩ := inner1 ls (ls.length : Int) (i : Int) (rd_L8 ls (i : Int)) (hl2 _ hm).1 (hl2 _ hm).2 (rd_L8 ls (i : Int)).length 0 n acts (Nat.zero_add _) h1 h2 h3 h4
    have e3 : wrap64 ((i : Int) + 1) = ((i + 1 : Nat) : Int) := by unfold wrap64; omega
    rw [e3] at a6
    obtain ⟨k, r, b1, b2⟩ := ih (i + 1) n' acts' (by omega) (by omega) a2 (by omega) a4
    obtain ⟨k', hk⟩ := a6 k r b1
    refine ⟨k' + 1, r, ?_, fun e => ?_⟩
    · simp only [towlinelaw06_short.l0]
      rw [if_pos (by omega), if_pos (by omega), if_pos (by omega)]
      exact hk
    · obtain ⟨c1, c2, c3⟩ := b2 e
      obtain ⟨d1, d2⟩ := a5 c1 c2
      refine ⟨by omega, by omega, fun j hj hj2 => ?_⟩
      by_cases e : j = i
      · subst e; exact ⟨by omega, fun m hm2 => d2 m (Nat.zero_le _) hm2⟩
      · exact c3 j (by omega) hj2
theorem tshort_says (ls : List (List TD)) (hl : ls.length ≤ 9223372036854775807) (hl2 : ∀ l ∈ ls, l.length ≤ 9223372036854775807 ∧ ∀ x ∈ l, x.f3.length ≤ 9223372036854775807) :
    ∃ k r, towlinelaw06_short.f k ls = some r ∧ (r = true → ∀ l ∈ ls, l.length ≤ 60 ∧ ∀ x ∈ l, TSmall x) := by
  obtain ⟨k, r, h1, h2⟩ := outer1 ls hl hl2 ls.length 0 0 0 (by omega) (by omega) (by omega) (by omega) (by omega)
  refine ⟨k, r, h1, fun e => ?_⟩
  obtain ⟨_, _, h3⟩ := h2 e
  intro l hl
  obtain ⟨j, hj, ej⟩ := List.mem_iff_getElem.1 hl
  have e1 : rd_L8 ls (j : Int) = l := by
    unfold rd_L8
    rw [Int.toNat_natCast, List.getD_eq_getElem?_getD, List.getElem?_eq_getElem hj, ← ej]; rfl
  have h4 := h3 j (Nat.zero_le _) hj
  rw [e1] at h4
  refine ⟨h4.1, fun x hx => ?_⟩
  obtain ⟨m, hm, em⟩ := List.mem_iff_getElem.1 hx
  have e2 : rd_T79 l (m : Int) = x := by
    unfold rd_T79
    rw [Int.toNat_natCast, List.getD_eq_getElem?_getD, List.getElem?_eq_getElem hm, ← em]; rfl
  rw [← e2]; exact h4.2 m hm
theorem tlists_C {W : World} {g : Nat} {t : TypeId} {fr : Nat × Nat} {cs : List Value} {ls : List (List TD)} (hg : W.heap[g]? = some (.cells cs.toArray t fr)) (hm : ls.length ≤ 9223372036854775807)
    (h : ∀ (j : Nat) (l : List TD), ls[j]? = some l → ∃ A c, cs[j]? = some (Value.slice A l.length c) ∧ l.length ≤ c ∧ k79.C W A l.length l) : Kd.C (Kd.slice 79 k79) W (some ⟨g, 0, none⟩) ls.length ls := by
  refine ⟨rfl, hm, fun _ => ⟨_, rfl, fun j l hj => ?_⟩⟩
  obtain ⟨A, c, h1, h2, h3⟩ := h j l hj
  refine ⟨[Value.slice A l.length c], rfl, ⟨A, c, rfl, h2, h3⟩, fun i u hi => ?_⟩
  have hi0 : i = 0 := by
    have := (List.getElem?_eq_some_iff.1 hi).1
    simp at this; exact this
  subst hi0
  injection hi with hi
  subst hi
  have ha : (⟨g, 0, none⟩ : Addr).add (j * (Kd.slice 79 k79).sz + 0) = ⟨g, j, none⟩ := by
    rw [add_at, show (Kd.slice 79 k79).sz = 1 from rfl]; simp
  rw [ha, cell_of_row W g j _ t fr hg, List.getElem?_toArray, h1]
theorem td_max {w : World} {A : Option Addr} {l : List TD} (h : k79.C w A l.length l) : l.length ≤ 9223372036854775807 ∧ ∀ x ∈ l, x.f3.length ≤ 9223372036854775807 := by
  refine ⟨Kd.C_max h, fun x hx => ?_⟩
  obtain ⟨m, hm, em⟩ := List.mem_iff_getElem.1 hx
  obtain ⟨ad, A2, c2, A3, c3, A4, c4, _, _, _, _, _, _, _, _, _, h3, _⟩ := at_T79 h (m : Int) (by omega) (by omega)
  have e2 : rd_T79 l (m : Int) = x := by
    unfold rd_T79
    rw [Int.toNat_natCast, List.getD_eq_getElem?_getD, List.getElem?_eq_getElem hm, ← em]; rfl
  rw [e2] at h3
  exact Kd.C_max h3
theorem tshort1 (l : List TD) (A : Option Addr) (c : Nat) (w : World) (hC : k79.C w A l.length l) (hc : l.length ≤ c) : ∃ r : Bool, (r = true → l.length ≤ 60 ∧ ∀ x ∈ l, TSmall x) ∧
    Calls Try.prog 37 #[.slice (some ⟨w.heap.size, 0, none⟩) 1 1] (w.alloc (.cells #[.slice A l.length c] 75)) fun e w' => e = .returned (.bool r) ∧ Below w.heap.size w w' := by
  obtain ⟨k, r, h1, h2⟩ := tshort_says [l] (by simp) (fun x hx => by rw [List.mem_singleton.1 hx]; exact td_max hC)
  refine ⟨r, fun e => h2 e l (List.mem_singleton.2 rfl), ?_⟩
  refine (towlinelaw06_short.calls k _ 1 [l] r _ (tlists_C (cs := [.slice A l.length c]) (blk_new w (.cells #[.slice A l.length c] 75)) (by simp) ?_) (Nat.le_refl _) h1).mono ?_
  · intro j m hj
    match j, hj with
    | 0, hj =>
      injection hj with hj
      subst hj
      exact ⟨A, c, rfl, hc, Kd.C_below hC (below_alloc (Below.refl _ _) _)⟩
  · rintro e w' ⟨rfl, hb⟩
    exact ⟨rfl, below_step (below_alloc (Below.refl _ _) _) hb⟩
def wfT (n : Int) : Prop := (Lit.int .i64 n).wf = true
def GTD (x : TD) : Prop := wfT x.f0 ∧ wfT x.f1 ∧ (∀ y ∈ x.f2, (Lit.int .u8 y).wf = true) ∧ (∀ d ∈ x.f3, ∀ y ∈ d, (Lit.int .u8 y).wf = true) ∧ (∀ y ∈ x.f4, wfT y)
theorem opensTD {H : Type} {enc : TypeId × Value → H} {W : World} : Op.Opens enc Try.prog W k79 GTD 79 :=
  Op.opens_iso (Op.opens_struct (d := Kd.pair (Kd.int .i64) (Kd.pair (Kd.int .i64) (Kd.pair (Kd.slice 5 (Kd.int .u8)) (Kd.pair (Kd.slice 32 (Kd.slice 5 (Kd.int .u8))) (Kd.slice 3 (Kd.int .i64)))))) Try.underlying79 (by kernel_rfl)
    (Op.fields_cons rfl (Op.opens_int Try.underlying3 (by kernel_rfl)) (Op.fields_cons rfl (Op.opens_int Try.underlying3 (by kernel_rfl)) (Op.fields_cons rfl (Op.opens_slice Try.underlying32 (by kernel_rfl) (Op.opens_int Try.underlying5 (by kernel_rfl))) (Op.fields_cons rfl (Op.opens_slice Try.underlying46 (by kernel_rfl) (Op.opens_slice Try.underlying32 (by kernel_rfl) (Op.opens_int Try.underlying5 (by kernel_rfl)))) (Op.fields_one rfl (Op.opens_slice Try.underlying33 (by kernel_rfl) (Op.opens_int Try.underlying3 (by kernel_rfl)))))))))
    (fun x : TD => (x.f0, x.f1, x.f2, x.f3, x.f4)) (fun p => ⟨p.1, p.2.1, p.2.2.1, p.2.2.2.1, p.2.2.2.2⟩) (fun _ => rfl)
theorem bs_wf {l : List Int} (h : ∀ y ∈ l, (Lit.int .u8 y).wf = true) : Bs l := fun x hx => wf_u8 (h x hx)
end Go.Proofs.Ytehjbhnlbjbhfaa.Tp
-- TpP
namespace Go.Proofs.Ytehjbhnlbjbhfaa.Tp
open Go Go.RowKit Go.Proofs.YtehjbhnlbjbhfaaW.PrintWords Go.Proofs.YtehjbhnlbjbhfaaW.PrintLast Go.Proofs.YtehjbhnlbjbhfaaW.PrintMore Go.Proofs.Ytehjbhnlbjbhfaa.Wire Go.Proofs.Ytehjbhnlbjbhfaa.Wk Go.Proofs.Ytehjbhnlbjbhfaa.Dk
set_option linter.unusedVariables false
set_option linter.unusedSimpArgs false
def ax1 : TS := (putP bx bs0 [97]).1
def as1 : DS := (putP bx bs0 [97]).2.1
def ax2 : TS := (syncT ax1 as1).1
def as2 : DS := (syncT ax1 as1).2.1
def ax3 : TS := (putP ax2 as2 [98]).1
def as3 : DS := (putP ax2 as2 [98]).2.1
def as4 : DS := (crashP as3 []).1
def as5 : DS := (startP as4).1
def ax6 : TS := ((openT as5).1).getD bx
def as6 : DS := (openT as5).2.1
def ax7 : TS := (saveP ax6 as6 [120] []).1
def as7 : DS := (saveP ax6 as6 [120] []).2.1
theorem ta1 : putP bx bs0 [97] = (ax1, as1, 0) := by kernel_rfl
theorem ta2 : syncT ax1 as1 = (ax2, as2, 0) := by kernel_rfl
theorem ta3 : putP ax2 as2 [98] = (ax3, as3, 0) := by kernel_rfl
theorem tk3 : ax3.kept = 1 := by kernel_rfl
theorem ta4 : crashP as3 [] = (as4, 0) := by kernel_rfl
theorem ta5 : startP as4 = (as5, 0) := by kernel_rfl
theorem ta6 : openT as5 = (some ax6, as6, 0) := by kernel_rfl
theorem tl6 : ax6.r.l = [[97]] := by kernel_rfl
theorem tg6 : (0 ≤ ax6.r.gen ∧ ax6.r.gen < 9223372036854775807) ∧ ax6.file ≤ 1 := by
  have h1 : ax6.r.gen = 1 := by kernel_rfl
  have h2 : ax6.file = 0 := by kernel_rfl
  rw [h1, h2]; decide
theorem ta7 : saveP ax6 as6 [120] [] = (ax7, as7, 0) := by kernel_rfl
theorem tb7 : ax7.r.base = [120] ∧ ax7.r.l = [] := ⟨by kernel_rfl, by kernel_rfl⟩
theorem tl3 : bx.r.l.length = 0 ∧ ax2.r.l.length = 1 := ⟨by kernel_rfl, by kernel_rfl⟩
theorem tok0 : Okk bs0 := openT_okk (newP_okk 2097152 (by decide))
theorem tok1 : Okk as1 := putP_okk tok0 _ _
theorem tok2 : Okk as2 := syncT_okk tok1 _
theorem tok3 : Okk as3 := putP_okk tok2 _ _
theorem tok4 : Okk as4 := tok3.crash _
theorem tok5 : Okk as5 := tok4.start
theorem tok6 : Okk as6 := openT_okk tok5
end Go.Proofs.Ytehjbhnlbjbhfaa.Tp
-- TpQ
namespace Go.Proofs.Ytehjbhnlbjbhfaa.Tp
open Go Go.RowKit Go.Proofs.YtehjbhnlbjbhfaaW.PrintWords Go.Proofs.YtehjbhnlbjbhfaaW.PrintLast Go.Proofs.YtehjbhnlbjbhfaaW.PrintMore Go.Proofs.Ytehjbhnlbjbhfaa.Wire Go.Proofs.Ytehjbhnlbjbhfaa.Wk Go.Proofs.Ytehjbhnlbjbhfaa.Dk
open Go.Proofs.Ytehjbhnlbjbhfaa.PTapePlays
set_option linter.unusedVariables false
set_option linter.unusedSimpArgs false
theorem Ws.al {P : Nat → Prop} {w w1 : World} {o : Obj} (h : Ws P (w.alloc o) w1) : Ws P w w1 := (Ws.of_below (below_alloc (Below.refl _ _) o)).trans (h.mono (fun _ _ hp => hp))
theorem bs_one (c : Int) (h : 0 ≤ c ∧ c < 256) : Bs [c] := fun x hx => by simp at hx; subst hx; exact h
theorem one_row {G : Nat → Prop} (W : World) (c : Int) (hG : ∀ b, G b → b < W.heap.size) : Rw G .u8 (W.alloc (.cells #[.int .u8 c] 5 (1, 2))) (.slice (some ⟨W.heap.size, 0, none⟩) 1 1) [c] := lit_row .u8 W [c] 5 (1, 2) hG (by simp)
theorem one_string (W : World) (s : ByteArray) : Kd.C Kd.string (W.alloc (.cells #[.string s] 9)) (some ⟨W.heap.size, 0, none⟩) 1 [s] := by
  refine ⟨rfl, by decide, fun _ => ⟨⟨W.heap.size, 0, none⟩, rfl, fun j p hj => ?_⟩⟩
  have : j = 0 := by have := (List.getElem?_eq_some_iff.1 hj).1; simp at this; omega
  subst this
  simp at hj
  subst hj
  refine ⟨[.string s], rfl, rfl, fun q u hq => ?_⟩
  have : q = 0 := by have := (List.getElem?_eq_some_iff.1 hq).1; simp at this; omega
  subst this
  simp at hq
  subst hq
  rw [add_plain]
  simp
theorem abs5 : BsD as5 := by
  have h : (as5.fs.all fun f => (f.seen.all fun x => decide (0 ≤ x ∧ x < 256)) && f.lasts.all fun x => decide (0 ≤ x ∧ x < 256)) = true := by kernel_rfl
  intro f hf
  have := List.all_eq_true.1 h f hf
  rw [Bool.and_eq_true, List.all_eq_true, List.all_eq_true] at this
  exact ⟨fun x hx => of_decide_eq_true (this.1 x hx), fun x hx => of_decide_eq_true (this.2 x hx)⟩
set_option maxHeartbeats 8000000 in
set_option maxRecDepth 100000 in
theorem awake_calls (w : World) : Calls Try.prog 31 #[] w fun e w' => e = .returned (.bool true) ∧ Below w.heap.size w w' := by
  go_enter Try.func31, Try.ntmps31
  go_wp2_with (fail)
  refine (begun_calls _).mono ?_
  rintro e w1 ⟨b, t, rfl, hb, ht, hD, hT, hB⟩
  obtain ⟨G, hG⟩ : ∃ G : Nat → Prop, (fun k => k = b ∨ k = t) = G := ⟨_, rfl⟩
  rw [hG] at hD hT
  have HGS := Aside0.mk (show ∀ k, TG t b k → w.heap.size ≤ k by rintro k (rfl | rfl); exact ht; exact hb)
  have HD := Aside0.mk hD
  have HT := Aside0.mk hT
  have HB := Aside0.mk hB
  clear hb ht hD hT hB
  have hcv1 : (convert 32 32 (.slice (some ⟨w1.heap.size, 0, none⟩) 1 1)).run Try.prog (w1.alloc (.cells #[.int .u8 97] 5)) = .ok (.slice (some ⟨w1.heap.size, 0, none⟩) 1 1) (w1.alloc (.cells #[.int .u8 97] 5 (1, 2))) := Go.Joins.run_convert_bytes_const_at w1 32 5 #[.int .u8 97] 1 1 w1.heap.size rfl Try.underlying32 Try.underlying5
  go_wp2_with (fail)
  refine (TPut_calls G t b bx bs0 _ [97] _ (HT.out.al _) (HD.out.al _) tok0 (one_row w1 97 HD.out.lt) (bs_one 97 (by decide)) (by decide) (by decide)).mono ?_
  rw [ta1]
  rintro e w2 ⟨rfl, hT2, hD2, hW2⟩
  have HT2 := Aside0.mk hT2
  have HD2 := Aside0.mk hD2
  have HB2 := Aside0.mk (hW2.al.below HB.out HGS.out)
  clear hT2 hD2 hW2 HT HD HB
  go_wp2_with (fail)
  refine (TSync_calls G t b ax1 as1 _ HT2.out HD2.out tok1).mono ?_
  rw [ta2]
  rintro e w3 ⟨rfl, hT3, hD3, hW3⟩
  have HT3 := Aside0.mk hT3
  have HD3 := Aside0.mk hD3
  have HB3 := Aside0.mk (hW3.below HB2.out HGS.out)
  clear hT3 hD3 hW3 HT2 HD2 HB2
  have hcv3 : (convert 32 32 (.slice (some ⟨w3.heap.size, 0, none⟩) 1 1)).run Try.prog (w3.alloc (.cells #[.int .u8 98] 5)) = .ok (.slice (some ⟨w3.heap.size, 0, none⟩) 1 1) (w3.alloc (.cells #[.int .u8 98] 5 (1, 2))) := Go.Joins.run_convert_bytes_const_at w3 32 5 #[.int .u8 98] 1 1 w3.heap.size rfl Try.underlying32 Try.underlying5
  go_wp2_with (fail)
  refine (TPut_calls G t b ax2 as2 _ [98] _ (HT3.out.al _) (HD3.out.al _) tok2 (one_row w3 98 HD3.out.lt) (bs_one 98 (by decide)) (by decide) (by rw [tl3.2]; decide)).mono ?_
  rw [ta3]
  rintro e w4 ⟨rfl, hT4, hD4, hW4⟩
  have HT4 := Aside0.mk hT4
  have HD4 := Aside0.mk hD4
  have HB4 := Aside0.mk (hW4.al.below HB3.out HGS.out)
  clear hT4 hD4 hW4 HT3 HD3 HB3
  go_wp2_with (fail)
  refine (Kept_calls G t b ax3 _ HT4.out).mono ?_
  rw [tk3]
  rintro e w5 ⟨rfl, ⟨n5, rfl⟩⟩
  have HK5 := Aside0.mk (HD4.out.drN n5)
  have HB5 := Aside0.mk (pw_below_drewN HB4.out n5)
  clear HT4 HD4 HB4
  go_wp2_with (fail)
  refine (Crash_calls G b as3 (.slice none 0 0) [] _ HK5.out tok3 (Rw.nil _ _ _) (fun x hx => by cases hx)).mono ?_
  rw [ta4]
  rintro e w6 ⟨rfl, hD6, hW6⟩
  have HD6 := Aside0.mk hD6
  have HB6 := Aside0.mk ((Ws.of_wr (P := TG t b) hW6 (.inr rfl)).below HB5.out HGS.out)
  clear hD6 hW6 HK5 HB5
  go_wp2_with (fail)
  refine (Start_calls G b as4 _ HD6.out).mono ?_
  rw [ta5]
  rintro e w7 ⟨rfl, hD7, hW7⟩
  have HD7 := Aside0.mk hD7
  have HB7 := Aside0.mk ((Ws.of_wr (P := TG t b) hW7 (.inr rfl)).below HB6.out HGS.out)
  clear hD7 hW7 HD6 HB6
  go_wp2_with (fail)
  refine (Open_calls G b as5 _ HD7.out tok5 abs5).mono ?_
  rw [ta6]
  rintro e w8 ⟨p, rfl, hD8, hW8, hp, hT8⟩
  subst hp
  obtain ⟨t2, ht2⟩ : ∃ t2, w7.heap.size = t2 := ⟨_, rfl⟩
  rw [ht2] at hD8 hT8
  have HG2 := Aside0.mk (show ∀ k, TG t2 b k → w.heap.size ≤ k by
    rintro k (rfl | rfl)
    · rw [← ht2]; exact HB7.out.size
    · exact HGS.out _ (.inr rfl))
  have HD8 := Aside0.mk hD8
  have HT8 := Aside0.mk hT8
  have HB8 := Aside0.mk ((hW8.mono (P' := TG t2 b) (fun k _ e => .inr e)).below HB7.out HG2.out)
  clear hD8 hT8 hW8 HD7 HB7
  go_wp2_with (fail)
  refine (records_calls _ t2 b ax6 _ HT8.out (by rw [tl6]; decide) (by rw [tl6]; decide)).mono ?_
  rintro e w9 ⟨v, rfl, hR9, hB9⟩
  obtain ⟨A9, c9, rfl⟩ := Kd.R_slice hR9
  have HR9 := Aside0.mk (show Kd.C Kd.string w9 A9 1 [strOfNums [97]] ∧ 1 ≤ c9 by
    have h1 := Kd.R_reads' hR9
    rw [tl6] at h1
    exact ⟨h1.2.2, h1.2.1⟩)
  have HLN := Aside0.mk (show (ax6.r.l.map strOfNums).length = 1 by rw [tl6]; rfl)
  rw [HLN.out]
  have HT9 := Aside0.mk (HT8.out.below hB9)
  have HD9 := Aside0.mk (HD8.out.below hB9)
  have HB9 := Aside0.mk (below_step HB8.out hB9)
  clear hR9 hB9 HT8 HD8 HB8
  go_wp2_with (fail)
  refine (slices_Equal_string_string.calls 10 A9 c9 [strOfNums [97]] (some ⟨w9.heap.size, 0, none⟩) 1 [⟨#[97]⟩] true _ (Kd.C_alloc HR9.out.1 _) HR9.out.2 (one_string w9 ⟨#[97]⟩) (by decide) (by decide +kernel)).mono ?_
  rintro e w10 ⟨rfl, ⟨n10, rfl⟩⟩
  have hs10 : ((w9.alloc (.cells #[.string ⟨#[97]⟩] 9)).drewN n10).heap.size = w9.heap.size + 1 := by simp
  have HB10 := Aside0.mk (pw_below_drewN (below_alloc (Below.refl w9.heap.size w9) (.cells #[.string ⟨#[97]⟩] 9)) n10)
  have hcv10 : (convert 32 32 (.slice (some ⟨w9.heap.size + 1, 0, none⟩) 1 1)).run Try.prog (((w9.alloc (.cells #[.string ⟨#[97]⟩] 9)).drewN n10).alloc (.cells #[.int .u8 120] 5)) = .ok (.slice (some ⟨w9.heap.size + 1, 0, none⟩) 1 1) (((w9.alloc (.cells #[.string ⟨#[97]⟩] 9)).drewN n10).alloc (.cells #[.int .u8 120] 5 (1, 2))) := Go.Joins.run_convert_bytes_const_at _ 32 5 #[.int .u8 120] 1 1 (w9.heap.size + 1) hs10.symm Try.underlying32 Try.underlying5
  have HROW := Aside0.mk (one_row ((w9.alloc (.cells #[.string ⟨#[97]⟩] 9)).drewN n10) 120 (HD9.out.below HB10.out).lt)
  rw [hs10] at HROW
  have HBA := Aside0.mk (below_alloc HB10.out (.cells #[.int .u8 120] 5 (1, 2)))
  go_wp2_with (fail)
  refine (Save_calls _ t2 b ax6 as6 _ (.slice none 0 0) [120] [] _ (HT9.out.below HBA.out) (HD9.out.below HBA.out) tok6 HROW.out (Rs.nil _ _) ⟨tg6.1, tg6.2, bs_one 120 (by decide), (fun d hd => absurd hd (by simp)), by decide, by decide, by decide⟩).mono ?_
  rw [ta7]
  rintro e w11 ⟨rfl, hT11, hD11, hW11⟩
  have HT11 := Aside0.mk hT11
  have HD11 := Aside0.mk hD11
  have HB11 := Aside0.mk (hW11.below (below_step HB9.out HBA.out) HG2.out)
  clear hT11 hD11 hW11
  go_wp2_with (fail)
  refine (Base_calls _ t2 b ax7 _ HT11.out (by rw [tb7.1]; decide)).mono ?_
  rw [tb7.1]
  rintro e w12 ⟨v, rfl, hR12, hB12⟩
  obtain ⟨A12, c12, rfl⟩ := Kd.R_slice hR12
  have hcv12 := Kd.C_string (P := Try.prog) (A := A12) (c := c12) Try.underlying32 Try.underlying5 Try.underlying9 (Kd.R_reads' hR12).2.2
  rw [show ([120] : List Int).length = 1 from rfl] at hcv12 ⊢
  have HT12 := Aside0.mk (HT11.out.below hB12)
  have HB12 := Aside0.mk (below_step HB11.out hB12)
  clear hR12 hB12
  have hx12 : (strOfNums [120] == (⟨#[120]⟩ : ByteArray)) = true := by decide +kernel
  have hy12 : decide (strOfNums [120] = (⟨#[120]⟩ : ByteArray)) = true := by decide +kernel
  have hz12 : (strOfNums [120]).toList = [120] := by decide +kernel
  have HLE := Aside0.mk (show Calls Try.prog 27 #[.pointer (some ⟨t2, 0, none⟩)] w12 fun e w' => e = .returned (.int .i64 0) ∧ Drawn0 w12 w' by
    have := Len_calls _ t2 b ax7 _ HT12.out
    rw [tb7.2] at this
    exact this)
  go_wp2_with (fail)
  refine HLE.out.mono ?_
  rintro e w13 ⟨rfl, ⟨n13, rfl⟩⟩
  go_wp2
  go_ret
  exact ⟨rfl, pw_below_drewN HB12.out n13⟩
end Go.Proofs.Ytehjbhnlbjbhfaa.Tp
-- TpV
namespace Go.Proofs.Ytehjbhnlbjbhfaa.Tp
open Go Go.RowKit Go.Proofs.YtehjbhnlbjbhfaaW.PrintWords Go.Proofs.YtehjbhnlbjbhfaaW.PrintLast Go.Proofs.YtehjbhnlbjbhfaaW.PrintMore Go.Proofs.Ytehjbhnlbjbhfaa.Wire Go.Proofs.Ytehjbhnlbjbhfaa.Wk Go.Proofs.Ytehjbhnlbjbhfaa.Dk
open Go.Proofs.Ytehjbhnlbjbhfaa.PTapePlays
set_option linter.unusedVariables false
set_option linter.unusedSimpArgs false
theorem IsD.wsmore {G P : Nat → Prop} {g b : Nat} {W W' : World} {s : DS} (h : IsD G W g s) (hw : Ws P W W') (hg : ∀ k, P k → G k) (hne : ¬ P g) (hb : W.heap.size ≤ b) (hb' : b < W'.heap.size) : IsD (fun k => G k ∨ k = b) W' g s := by
  have h' := IsD.ws h hw hg hne
  obtain ⟨h1, h2, d, hA, hR⟩ := h
  have hs : ∀ k, k < W.heap.size → (G k ∨ k = b) → G k := fun k hk hG => hG.elim id (fun e => by omega)
  have hg' : ∀ k, P k → (G k ∨ k = b) := fun k hk => .inl (hg k hk)
  exact ⟨fun k hk => hk.elim (h'.lt k) (fun e => e ▸ hb'), .inl h2, d, hA.same (hw.block g (h1 g h2) hne), hR.1, hR.2.1, Rw.ws (hR.2.2.1.grow hs) hw hg', hR.2.2.2.1, hR.2.2.2.2.1, hR.2.2.2.2.2.1, fun i hi => ⟨Rw.ws ((hR.2.2.2.2.2.2 i hi).1.grow hs) hw hg', Rw.ws ((hR.2.2.2.2.2.2 i hi).2.1.grow hs) hw hg', (hR.2.2.2.2.2.2 i hi).2.2⟩⟩
theorem IsT.wsmore {G P : Nat → Prop} {W W' : World} {t g b : Nat} {x : TS} (h : IsT G W t g x) (hw : Ws P W W') (hg : ∀ k, P k → G k) (hne : ¬ P t) (hb : W.heap.size ≤ b) : IsT (fun k => G k ∨ k = b) W' t g x :=
  (h.grow (G' := fun k => G k ∨ k = b) (.inl h.gt) (fun k hk hG => hG.elim id (fun e => by omega))).ws hw (fun k hk => .inl (hg k hk)) hne
theorem saveP_bsd {s : DS} (h : BsD s) (t : TS) {base : List Int} {l : List (List Int)} (hb : Bs base) (hl : ∀ d ∈ l, Bs d) (hl2 : ∀ d ∈ l, d.length ≤ 8192) (hg : 0 ≤ t.r.gen ∧ t.r.gen ≤ 1099511627776) (hn : l.length ≤ 1099511627776) : BsD (saveP t s base l).2.1 := by
  unfold saveP
  split
  · exact h
  · split
    · exact h
    · split
      · exact h
      · split
        · exact h
        · rename_i c1 c2 c3 c4
          obtain ⟨q1, q2⟩ := headE_zero (Decidable.of_not_not c3)
          have hall : Bs ((headE (t.r.gen + 1) (l.length : Int) base).1 ++ l.flatMap sealP) := by
            rw [q2]
            refine (seal_bs (headB_bs (by omega) (by omega) hb (by omega)) (by omega)).app (flat_bs fun d hd => ⟨hl d hd, hl2 d hd⟩)
          unfold saveW
          simp only
          split
          · exact h.clear _
          · split
            · exact (h.clear _).append _ hall
            · split
              · exact ((h.clear _).append _ hall).sync _
              · exact ((h.clear _).append _ hall).sync _
theorem openT_bsd {s : DS} (hok : Okk s) (h : BsD s) : BsD (openT s).2.1 := by
  have hro := pk_rok h hok.1 2 (by decide)
  rw [pk_two] at hro
  unfold openT
  split
  · exact h
  · simp only
    split
    · split
      · exact saveP_bsd h _ hro.1.bb (fun d hd => (hro.1.bl d hd).1) (fun d hd => (hro.1.bl d hd).2) hro.1.gen (by have := flat_len (picked s).1.r.l; have := hro.1.all; show (picked s).1.r.l.length ≤ _; omega)
      · exact saveP_bsd h _ hro.1.bb (fun d hd => (hro.1.bl d hd).1) (fun d hd => (hro.1.bl d hd).2) hro.1.gen (by have := flat_len (picked s).1.r.l; have := hro.1.all; show (picked s).1.r.l.length ≤ _; omega)
    · exact h
theorem rdT_mem {l : List TD} {i : Nat} (h : i < l.length) : rd_T79 l (i : Int) ∈ l := by
  unfold rd_T79
  rw [Int.toNat_natCast, List.getD_eq_getElem?_getD, List.getElem?_eq_getElem h]
  exact List.getElem_mem _
def eqSt (l m : List ByteArray) : Bool := decide (l.map (·.toList) = m.map (·.toList))
theorem eqSt_self (l : List ByteArray) : eqSt l l = true := by simp [eqSt]
theorem rdOf_drop (l : List ByteArray) {i : Nat} (h : i < l.length) : l.drop i = rdOf ByteArray.empty l (i : Int) :: l.drop (i + 1) := by
  unfold rdOf
  rw [List.drop_eq_getElem_cons h, Int.toNat_natCast, List.getD_eq_getElem?_getD, List.getElem?_eq_getElem h]; rfl
theorem strs_l0 (l m : List ByteArray) (hn : l.length = m.length) (hm : l.length ≤ 9223372036854775807) : ∀ (d i : Nat), i + d = l.length → slices_Equal_string_string.l0 (d + 1) l m (l.length : Int) (i : Int) = some (eqSt (l.drop i) (m.drop i)) := by
  intro d
  induction d with
  | zero =>
    intro i hi
    simp only [slices_Equal_string_string.l0]
    rw [if_neg (by omega), List.drop_eq_nil_of_le (by omega), List.drop_eq_nil_of_le (by omega)]
    rfl
  | succ d ih =>
    intro i hi
    rw [slices_Equal_string_string.l0, if_pos (by omega), if_pos (by omega), if_pos (by omega), if_pos (by omega), rdOf_drop l (by omega), rdOf_drop m (by omega)]
    unfold eqSt
    rw [List.map_cons, List.map_cons]
    by_cases c : (rdOf ByteArray.empty l (i : Int)).toList = (rdOf ByteArray.empty m (i : Int)).toList
    · rw [if_pos c, show wrap64 ((i : Int) + 1) = ((i + 1 : Nat) : Int) by unfold wrap64; omega, ih (i + 1) (by omega), c]
      unfold eqSt
      simp
    · rw [if_neg c]
      simp [c]
theorem strs_eq (l m : List ByteArray) (hm : l.length ≤ 9223372036854775807) : ∃ k, slices_Equal_string_string.f k l m = some (eqSt l m) := by
  unfold slices_Equal_string_string.f
  by_cases c : l.length = m.length
  · refine ⟨l.length + 1, ?_⟩
    rw [if_pos (by omega)]
    have := strs_l0 l m c hm l.length 0 (Nat.zero_add _)
    simpa using this
  · refine ⟨0, ?_⟩
    rw [if_neg (by omega)]
    have : ¬ l.map (·.toList) = m.map (·.toList) := fun e => c (by have := congrArg List.length e; simpa using this)
    simp [eqSt, this]
theorem strs_calls (A0 : Option Addr) (c0 : Nat) (l0 : List ByteArray) (A1 : Option Addr) (c1 : Nat) (l1 : List ByteArray) (w : World) (hr0 : Kd.C Kd.string w A0 l0.length l0) (hc0 : l0.length ≤ c0) (hr1 : Kd.C Kd.string w A1 l1.length l1) (hc1 : l1.length ≤ c1) :
    Calls Try.prog 39 #[.slice A0 l0.length c0, .slice A1 l1.length c1] w fun e w' => e = .returned (.bool (eqSt l0 l1)) ∧ Drawn0 w w' := by
  obtain ⟨k, hk⟩ := strs_eq l0 l1 (Kd.C_max hr0)
  exact slices_Equal_string_string.calls k A0 c0 l0 A1 c1 l1 _ w hr0 hc0 hr1 hc1 hk
structure Bnd (x : TS) (n : Nat) : Prop where
  base : x.r.base.length ≤ 8176
  many : x.r.l.length ≤ n
  l : ∀ d ∈ x.r.l, d.length ≤ 8192
theorem Bnd.put {x : TS} {n : Nat} (h : Bnd x n) (s : DS) (d : List Int) : Bnd (putP x s d).1 (n + 1) := by
  have h' : Bnd x (n + 1) := ⟨h.base, by have := h.many; omega, h.l⟩
  unfold putP
  split
  · exact h'
  · rename_i c
    simp only
    split
    · exact h'
    · refine ⟨h.base, by show (x.r.l ++ [d]).length ≤ _; have := h.many; rw [List.length_append]; simp; omega, fun y hy => ?_⟩
      rcases List.mem_append.1 hy with hy | hy
      · exact h.l y hy
      · rw [List.mem_singleton.1 hy]; omega
theorem saveP_reel {t : TS} {s : DS} {base : List Int} {l : List (List Int)} (h : (saveP t s base l).2.2 = 0) : (saveP t s base l).1 = ⟨⟨t.r.gen + 1, base, l⟩, 1 - t.file, l.length⟩ ∧ t.r.gen < 1099511627776 ∧ base.length ≤ 8176 ∧ ∀ d ∈ l, d.length ≤ 8192 := by
  unfold saveP at *
  split at h
  · exact absurd h (show ¬ (5 : Int) = 0 by decide)
  · split at h
    · exact absurd h (show ¬ (4 : Int) = 0 by decide)
    · split at h
      · rename_i c; exact absurd h c
      · split at h
        · exact absurd h (show ¬ (4 : Int) = 0 by decide)
        · rename_i c1 c2 c3 c4
          rw [if_neg c1, if_neg c2, if_neg c3, if_neg c4]
          unfold saveW at *
          simp only at *
          split at h
          · rename_i c; exact absurd h c
          · rename_i c5
            rw [if_neg c5]
            split at h
            · rename_i c; exact absurd h c
            · rename_i c6
              rw [if_neg c6]
              split at h
              · rename_i c; exact absurd h c
              · rename_i c7
                rw [if_neg c7]
                exact ⟨rfl, by omega, by omega, tooLong_not c4⟩
theorem openT_some {s s' : DS} {x : TS} {e : Int} (hb : BsD s) (hok : Ok s) (h : openT s = (some x, s', e)) : e = 0 ∧ Bnd x 4194304 ∧ x.file ≤ 1 ∧ x.kept = x.r.l.length ∧ x.r.gen ≤ 1099511627776 ∧ 1 ≤ x.r.gen ∧ Bs x.r.base ∧ ∀ d ∈ x.r.l, Bs d := by
  have hro := pk_rok hb hok 2 (by decide)
  rw [pk_two] at hro
  have hfi : (picked s).1.file ≤ 1 := by rcases pk_ok hb hok 2 with h | h <;> rw [pk_two] at h <;> omega
  have hll : (picked s).1.r.l.length ≤ 4194304 := by
    have := hro.1.all
    have := flat_len (picked s).1.r.l
    omega
  unfold openT at h
  split at h
  · exact absurd h (by simp)
  · simp only at h
    split at h
    · split at h
      · exact absurd h (by simp)
      · rename_i ce
        obtain ⟨q1, q2, q3, q4⟩ := saveP_reel (Decidable.of_not_not ce)
        injection h with e1 e2
        injection e1 with e1
        injection e2 with e2 e3
        rw [← e1, q1]
        exact ⟨e3.symm, ⟨hro.1.base, hll, fun d hd => (hro.1.bl d hd).2⟩, by show 1 - _ ≤ 1; omega, rfl, by show (picked s).1.r.gen + 1 ≤ _; have : (picked s).1.r.gen < _ := q2; omega, by show 1 ≤ (picked s).1.r.gen + 1; have := hro.1.gen.1; omega, hro.1.bb, fun d hd => (hro.1.bl d hd).1⟩
    · rename_i cd
      injection h with e1 e2
      injection e1 with e1
      injection e2 with e2 e3
      rw [← e1]
      have hg : (picked s).1.r.gen ≠ 0 := fun e => cd (.inl e)
      exact ⟨e3.symm, ⟨hro.1.base, hll, fun d hd => (hro.1.bl d hd).2⟩, hfi, rfl, hro.1.gen.2, by show 1 ≤ (picked s).1.r.gen; have := hro.1.gen.1; omega, hro.1.bb, fun d hd => (hro.1.bl d hd).1⟩
theorem sum_set (l : List Nat) {i : Nat} (h : i < l.length) (v : Nat) : (l.set i v).sum + l.getD i 0 = l.sum + v := by
  induction l generalizing i with
  | nil => simp at h
  | cons a l ih =>
    cases i with
    | zero => simp; omega
    | succ i =>
      have := ih (i := i) (by simpa using h)
      simp only [List.set_cons_succ, List.sum_cons, List.getD_cons_succ]
      omega
theorem used_setF (s : DS) {i : Nat} (h : i < s.fs.length) (f : Fl) : usedP (setF s i f) + (fl s i).seen.length = usedP s + f.seen.length := by
  have h1 := sum_set (s.fs.map fun f => f.seen.length) (by rw [List.length_map]; exact h) f.seen.length
  unfold usedP setF
  rw [show (s.fs.set i f).map (fun f => f.seen.length) = (s.fs.map fun f => f.seen.length).set i f.seen.length by rw [List.map_set]]
  have h2 : (s.fs.map fun f => f.seen.length).getD i 0 = (fl s i).seen.length := by
    unfold fl
    rw [List.getD_eq_getElem?_getD, List.getD_eq_getElem?_getD, List.getElem?_map, List.getElem?_eq_getElem h]
    rfl
  rw [h2] at h1
  exact h1
theorem newP_calm {room : Int} (h : room ≠ 0) : Calm (newP room) := ⟨h, rfl, rfl, rfl⟩
theorem calm_append_calm {s : DS} (h : Calm s) {j : Nat} (hj : j < 8) (b : List Int) : Calm (appendP s (j : Int) b).1 := by
  rw [calm_append h hj]
  split
  · exact h
  · exact h.setF _ _
theorem picked_all {s : DS} (hb : BsD s) : ((picked s).1.r.l.flatMap sealP).length ≤ (fl s 0).seen.length + (fl s 1).seen.length := by
  have h0 := (readT_ok (hb.fl 0).1).all
  have h1 := (readT_ok (hb.fl 1).1).all
  unfold picked pick
  simp only
  split
  · split
    · show ((readT (fl s 1).seen).1.l.flatMap sealP).length ≤ _; omega
    · show ((readT (fl s 0).seen).1.l.flatMap sealP).length ≤ _; omega
  · split
    · show ((readT (fl s 1).seen).1.l.flatMap sealP).length ≤ _; omega
    · show (([] : List (List Int)).flatMap sealP).length ≤ _; simp
theorem open_two {a b : List Int} (ha : a.length ≤ 16384) (hb : b.length ≤ 16384) (ba : Bs a) (bb : Bs b) {s' : DS} {e : Int} (h : openT (appendP (appendP (newP 2097152) ((0 : Nat) : Int) a).1 ((1 : Nat) : Int) b).1 = (none, s', e)) : e = 5 ∨ e = 4 := by
  have c0 : Calm (newP 2097152) := newP_calm (by decide)
  have u0 : usedP (newP 2097152) = 0 := by decide
  have f0 : ∀ j, (fl (newP 2097152) j).seen.length = 0 := by
    intro j
    have : fl (newP 2097152) j = nf := by
      unfold fl newP
      rw [List.getD_eq_getElem?_getD, List.getElem?_replicate]
      split <;> rfl
    rw [this]; rfl
  have e1 : (appendP (newP 2097152) ((0 : Nat) : Int) a).1 = setF (newP 2097152) 0 ⟨(fl (newP 2097152) 0).seen ++ a, (fl (newP 2097152) 0).lasts, (fl (newP 2097152) 0).cl⟩ := by
    rw [calm_append c0 (by decide), if_neg (by rw [u0]; show ¬ (2097152 : Int) < _; omega)]
  have hbs1 : BsD (appendP (newP 2097152) ((0 : Nat) : Int) a).1 := (newP_bs _).append _ ba
  have hbs : BsD (appendP (appendP (newP 2097152) ((0 : Nat) : Int) a).1 ((1 : Nat) : Int) b).1 := hbs1.append _ bb
  have c1 : Calm (appendP (newP 2097152) ((0 : Nat) : Int) a).1 := calm_append_calm c0 (by decide) a
  have c2 : Calm (appendP (appendP (newP 2097152) ((0 : Nat) : Int) a).1 ((1 : Nat) : Int) b).1 := calm_append_calm c1 (by decide) b
  have hok : Ok (appendP (appendP (newP 2097152) ((0 : Nat) : Int) a).1 ((1 : Nat) : Int) b).1 := (((newP_okk 2097152 (by decide)).append _ _).append _ _).1
  have r1 : (appendP (newP 2097152) ((0 : Nat) : Int) a).1.room = 2097152 := by rw [append_room]; rfl
  have u1 : usedP (appendP (newP 2097152) ((0 : Nat) : Int) a).1 = a.length := by
    have := used_setF (newP 2097152) (i := 0) (by decide) ⟨(fl (newP 2097152) 0).seen ++ a, (fl (newP 2097152) 0).lasts, (fl (newP 2097152) 0).cl⟩
    rw [← e1] at this
    simp only [List.length_append, f0, u0] at this
    omega
  have r2 : (appendP (appendP (newP 2097152) ((0 : Nat) : Int) a).1 ((1 : Nat) : Int) b).1.room = 2097152 := by rw [append_room, r1]
  have e2 : (appendP (appendP (newP 2097152) ((0 : Nat) : Int) a).1 ((1 : Nat) : Int) b).1 = setF (appendP (newP 2097152) ((0 : Nat) : Int) a).1 1 ⟨(fl (appendP (newP 2097152) ((0 : Nat) : Int) a).1 1).seen ++ b, (fl (appendP (newP 2097152) ((0 : Nat) : Int) a).1 1).lasts, (fl (appendP (newP 2097152) ((0 : Nat) : Int) a).1 1).cl⟩ := by
    rw [calm_append c1 (by decide), if_neg (by rw [r1, u1]; omega)]
  have u2 : usedP (appendP (appendP (newP 2097152) ((0 : Nat) : Int) a).1 ((1 : Nat) : Int) b).1 = a.length + b.length := by
    have := used_setF (appendP (newP 2097152) ((0 : Nat) : Int) a).1 (i := 1) (by rw [c1.len]; decide) ⟨(fl (appendP (newP 2097152) ((0 : Nat) : Int) a).1 1).seen ++ b, (fl (appendP (newP 2097152) ((0 : Nat) : Int) a).1 1).lasts, (fl (appendP (newP 2097152) ((0 : Nat) : Int) a).1 1).cl⟩
    rw [← e2] at this
    simp only [List.length_append, u1] at this
    omega
  generalize (appendP (appendP (newP 2097152) ((0 : Nat) : Int) a).1 ((1 : Nat) : Int) b).1 = s at *
  have hseen : ∀ j, j < 8 → (fl s j).seen.length ≤ usedP s := fun j hj => show _ ≤ (s.fs.map fun f : Fl => f.seen.length).sum from sum_mem (s.fs.map fun f : Fl => f.seen.length) (fl s j).seen.length (List.mem_map.2 ⟨_, hok.fl_mem hj, rfl⟩)
  have hro := pk_rok hbs hok 2 (by decide)
  rw [pk_two] at hro
  have hfi : (picked s).1.file ≤ 1 := by rcases pk_ok hbs hok 2 with h | h <;> rw [pk_two] at h <;> omega
  have hall := picked_all hbs
  have hs0 := hseen 0 (by decide)
  have hs1 := hseen 1 (by decide)
  have hll : (picked s).1.r.l.length ≤ 1099511627776 := by
    have := flat_len (picked s).1.r.l
    omega
  have hrd : (readT (fl s (picked s).1.file).seen).1.gen ≤ (picked s).1.r.gen := by
    unfold picked pick
    simp only
    split <;> rename_i c1
    · split <;> rename_i c2 <;> simp only at * <;> omega
    · split <;> rename_i c2 <;> simp only at * <;> omega
  unfold openT at h
  rw [if_neg (fun e => e (able_on (j := 0) (by decide) c2.room c2.on))] at h
  simp only at h
  split at h
  · split at h
    · rename_i c
      injection h with h1 h2
      injection h2 with h2 h3
      rw [← h3]
      rcases save_calm (t := ⟨(picked s).1.r, (picked s).1.file, (picked s).1.r.l.length⟩) c2 hfi hro.1.gen.1 hrd hro.1.bb (fun d hd => (hro.1.bl d hd).1) hll with ⟨g1, _⟩ | ⟨_, _, ⟨_, g3⟩ | ⟨_, _, g4⟩⟩
      · exact absurd g1 c
      · exact g3
      · exfalso
        have hu := used_setF s (i := 1 - (picked s).1.file) (by rw [c2.len]; omega) ⟨[], (fl s (1 - (picked s).1.file)).lasts, true⟩
        rw [r2] at g4
        simp only [List.length_append, List.length_nil] at g4 hu
        by_cases ch : (headE ((picked s).1.r.gen + 1) ((picked s).1.r.l.length : Int) (picked s).1.r.base).2 = 0
        · have := head_len hro.1.base ch
          omega
        · have : (headE ((picked s).1.r.gen + 1) ((picked s).1.r.l.length : Int) (picked s).1.r.base).1.length = 0 := by
            unfold headE sealE at *
            split at ch
            · rename_i cc; rw [if_pos cc]; rfl
            · exact absurd rfl ch
          omega
    · exact absurd h (by simp)
  · exact absurd h (by simp)
end Go.Proofs.Ytehjbhnlbjbhfaa.Tp
-- WkTapeAgain
namespace Go.Proofs.Ytehjbhnlbjbhfaa.Wk
open Go Go.RowKit Go.Proofs.YtehjbhnlbjbhfaaW.PrintWords Go.Proofs.YtehjbhnlbjbhfaaW.PrintLast Go.Proofs.YtehjbhnlbjbhfaaW.PrintMore Go.Proofs.Ytehjbhnlbjbhfaa.Wire Go.Proofs.Ytehjbhnlbjbhfaa.Dk Go.Proofs.Ytehjbhnlbjbhfaa.Tp
open Go.Proofs.Ytehjbhnlbjbhfaa.PTapePlays
set_option linter.unusedVariables false
set_option linter.unusedSimpArgs false
set_option maxHeartbeats 16000000 in
set_option maxRecDepth 100000 in
theorem TapeAgain {W : World} (A0 : Option Addr) (cap0 : Nat) (l0 : List Int) (hl0 : l0.length ≤ cap0) (hC0 : (Kd.int .u8).C W A0 l0.length l0) (hG0 : ∀ y ∈ l0, (Lit.int .u8 y).wf = true)
    (A1 : Option Addr) (cap1 : Nat) (l1 : List Int) (hl1 : l1.length ≤ cap1) (hC1 : (Kd.int .u8).C W A1 l1.length l1) (hG1 : ∀ y ∈ l1, (Lit.int .u8 y).wf = true)
    (A2 : Option Addr) (cap2 : Nat) (l2 : List TD) (hl2 : l2.length ≤ cap2) (hC2 : k79.C W A2 l2.length l2) (hG2 : ∀ y ∈ l2, GTD y) :
    Calls Try.prog 6 #[.slice A0 l0.length cap0, .slice A1 l1.length cap1, .slice A2 l2.length cap2] W fun e w' => e = .returned (.bool true) ∧ Below W.heap.size W w' := by
  have HC0 := Aside0.mk (And.intro hl0 hC0)
  have HC1 := Aside0.mk (And.intro hl1 hC1)
  have HC2 := Aside0.mk (And.intro hl2 hC2)
  have HS0 := Aside0.mk (bs_wf hG0)
  have HS1 := Aside0.mk (bs_wf hG1)
  have HG2 := Aside0.mk hG2
  obtain ⟨r, hr, hsh⟩ := tshort1 l2 A2 cap2 W hC2 hl2
  have HRS := Aside0.mk hr
  have HSH := Aside0.mk hsh
  clear hl0 hC0 hG0 hl1 hC1 hG1 hl2 hC2 hG2 hr hsh
  by_cases c0 : (l0.length : Int) > 16384
  · have d0 : decide ((l0.length : Int) > 16384) = true := decide_eq_true c0
    have d1 : decide ((16384 : Int) < (l0.length : Int)) = true := decide_eq_true c0
    clear c0
    go_enter Try.func6, Try.ntmps6
    go_wp2_with (fail)
    refine (Tp.awake_calls _).mono ?_
    rintro e w1 ⟨rfl, hB⟩
    have HB := Aside0.mk hB
    clear hB
    go_wp2_with (fail)
    go_ret
    exact ⟨rfl, HB.out⟩
  by_cases c1 : (l1.length : Int) > 16384
  · have d0 : decide ((l0.length : Int) > 16384) = false := decide_eq_false c0
    have d1 : decide ((16384 : Int) < (l0.length : Int)) = false := decide_eq_false c0
    have d2 : decide ((l1.length : Int) > 16384) = true := decide_eq_true c1
    have d3 : decide ((16384 : Int) < (l1.length : Int)) = true := decide_eq_true c1
    clear c0 c1
    go_enter Try.func6, Try.ntmps6
    go_wp2_with (fail)
    refine (Tp.awake_calls _).mono ?_
    rintro e w1 ⟨rfl, hB⟩
    have HB := Aside0.mk hB
    clear hB
    go_wp2_with (fail)
    go_ret
    exact ⟨rfl, HB.out⟩
  have d0 : decide ((l0.length : Int) > 16384) = false := decide_eq_false c0
  have d1 : decide ((16384 : Int) < (l0.length : Int)) = false := decide_eq_false c0
  have d2 : decide ((l1.length : Int) > 16384) = false := decide_eq_false c1
  have d3 : decide ((16384 : Int) < (l1.length : Int)) = false := decide_eq_false c1
  have HLN := Aside0.mk (show l0.length ≤ 16384 ∧ l1.length ≤ 16384 by omega)
  clear c0 c1
  cases r with
  | false =>
    go_enter Try.func6, Try.ntmps6
    go_wp2_with (fail)
    refine HSH.out.mono ?_
    rintro e w1 ⟨rfl, hB⟩
    have HB := Aside0.mk hB
    clear hB
    go_wp2_with (fail)
    refine (Tp.awake_calls _).mono ?_
    rintro e w2 ⟨rfl, hB2⟩
    have HB2 := Aside0.mk (below_step HB.out hB2)
    clear hB2
    go_wp2_with (fail)
    go_ret
    exact ⟨rfl, HB2.out⟩
  | true =>
    have HSM := Aside0.mk (HRS.out rfl)
    clear HRS
    go_enter Try.func6, Try.ntmps6
    go_wp2_with (fail)
    refine HSH.out.mono ?_
    rintro e w1 ⟨rfl, hB⟩
    have HB := Aside0.mk hB
    clear hB HSH
    go_wp2_with (fail)
    refine (New_calls 2097152 _ (by decide) (by decide)).mono ?_
    rintro e w2 ⟨b, rfl, hb1, hb2, hB2, hI⟩
    have HB2 := Aside0.mk (below_step HB.out hB2)
    have HBL := Aside0.mk (show W.heap.size ≤ b from Nat.le_trans HB.out.size hb1)
    have HI := Aside0.mk (hI (fun k => k = b) (fun k e => e ▸ hb2) rfl)
    have HR0 := Aside0.mk ((Rw.came (G := fun k => k = b) HC0.out.2 HC0.out.1 (fun k e => e ▸ HBL.out)).below HB2.out)
    have HR1 := Aside0.mk ((Rw.came (G := fun k => k = b) HC1.out.2 HC1.out.1 (fun k e => e ▸ HBL.out)).below HB2.out)
    clear hb1 hb2 hB2 hI HB
    go_wp2_with (fail)
    refine (Append_calls _ b (newP 2097152) ((0 : Nat) : Int) _ l0 _ HI.out (newP_okk 2097152 (by decide)) HR0.out (by have := HLN.out; omega)).mono ?_
    rintro e w3 ⟨rfl, hI, hW⟩
    have HI3 := Aside0.mk hI
    have HB3 := Aside0.mk (hW.below HB2.out HBL.out)
    have HR13 := Aside0.mk (Rw.wr HR1.out hW rfl)
    clear hI hW HI HR0 HR1 HB2
    go_wp2_with (fail)
    refine (Append_calls _ b (appendP (newP 2097152) ((0 : Nat) : Int) l0).1 ((1 : Nat) : Int) _ l1 _ HI3.out ((newP_okk 2097152 (by decide)).append _ _) HR13.out (by have := HLN.out; omega)).mono ?_
    rintro e w4 ⟨rfl, hI, hW⟩
    have HI4 := Aside0.mk hI
    have HB4 := Aside0.mk (hW.below HB3.out HBL.out)
    have HOK := Aside0.mk (((newP_okk 2097152 (by decide)).append ((0 : Nat) : Int) l0).append ((1 : Nat) : Int) l1)
    have HBS := Aside0.mk ((((newP_bs 2097152).append ((0 : Nat) : Int) HS0.out).append ((1 : Nat) : Int) HS1.out))
    have HCA := Aside0.mk (calm_append_calm (calm_append_calm (newP_calm (room := 2097152) (by decide)) (show 0 < 8 by decide) l0) (show 1 < 8 by decide) l1)
    have HON := Aside0.mk (fun s' e h => open_two HLN.out.1 HLN.out.2 HS0.out HS1.out (s' := s') (e := e) h)
    clear hI hW HI3 HR13 HB3
    generalize (appendP (appendP (newP 2097152) ((0 : Nat) : Int) l0).1 ((1 : Nat) : Int) l1).1 = s0 at *
    obtain ⟨⟨o, s, e0⟩, ho⟩ : ∃ q, openT s0 = q := ⟨_, rfl⟩
    have HO := Aside0.mk ho
    clear ho
    go_wp2_with (fail)
    refine (Open_calls _ b s0 _ HI4.out HOK.out HBS.out).mono ?_
    rw [HO.out]
    rintro e w5 ⟨p, rfl, hD5, hW5, hp⟩
    have HGB := Aside0.mk (HI4.out.lt b rfl)
    obtain ⟨t, ht⟩ : ∃ t, w4.heap.size = t := ⟨_, rfl⟩
    rw [ht] at hD5 hp HGB
    have HD5 := Aside0.mk hD5
    have HB5 := Aside0.mk (hW5.below HB4.out (fun k e => e ▸ HBL.out))
    clear hD5 hW5 HI4 HB4 ht
    cases o with
    | none =>
      have HE := HON.out s e0 HO.out
      subst hp
      rcases HE with rfl | rfl
      · go_wp2_with (fail)
        refine (Tp.awake_calls _).mono ?_
        rintro e w6 ⟨rfl, hB6⟩
        have HB6 := Aside0.mk (below_step HB5.out hB6)
        clear hB6
        go_wp2_with (fail)
        go_ret
        exact ⟨rfl, HB6.out⟩
      · go_wp2_with (fail)
        refine (Tp.awake_calls _).mono ?_
        rintro e w6 ⟨rfl, hB6⟩
        have HB6 := Aside0.mk (below_step HB5.out hB6)
        clear hB6
        go_wp2_with (fail)
        go_ret
        exact ⟨rfl, HB6.out⟩
    | some x =>
      obtain ⟨rfl, hT5⟩ := hp
      obtain ⟨rfl, hbnd, hxf, _, _⟩ := openT_some HBS.out HOK.out.1 HO.out
      have HBN := Aside0.mk hbnd
      have HAG := Aside0.mk (open_again HCA.out HBS.out HOK.out.1 HO.out)
      have HOS := Aside0.mk (show Okk s by have := openT_okk HOK.out; rw [HO.out] at this; exact this)
      have HBD := Aside0.mk (show BsD s by have := openT_bsd HOK.out HBS.out; rw [HO.out] at this; exact this)
      have HT5 := Aside0.mk hT5
      have HTL := Aside0.mk hT5.lt
      clear hT5 hbnd hxf HOK HBS HCA HON HO
      go_wp2_with (fail)
      refine (DClone_calls _ b s _ HD5.out).mono ?_
      rintro e w6 ⟨b2, rfl, hb2, hb3, hB6, hI6⟩
      have HB6 := Aside0.mk (below_step HB5.out hB6)
      have HG2 := Aside0.mk hb2
      have HG3 := Aside0.mk hb3
      have HD6 := Aside0.mk (HD5.out.more hb2 hb3 hB6)
      have HT6 := Aside0.mk (HT5.out.wsmore (P := fun _ => False) (b := b2) (Ws.of_below hB6) (fun _ h => h.elim) (fun h => h) hb2)
      have HI6 := Aside0.mk hI6
      clear hb2 hb3 hB6 hI6 HB5 HD5 HT5
      go_wp2_with (fail)
      refine (Open_calls _ b2 s _ HI6.out HOS.out HBD.out).mono ?_
      rw [HAG.out]
      rintro e w7 ⟨p, rfl, hD7, hW7, hp7, hT7⟩
      subst hp7
      have HG4 := Aside0.mk (show b2 < w6.heap.size from HG3.out)
      obtain ⟨t2, ht2⟩ : ∃ t2, w6.heap.size = t2 := ⟨_, rfl⟩
      rw [ht2] at hD7 hT7 HG4 ⊢
      have HNE := Aside0.mk (show b < t ∧ t < b2 ∧ b2 < t2 from ⟨HGB.out, Nat.lt_of_lt_of_le HTL.out HG2.out, HG4.out⟩)
      have HB7 := Aside0.mk (hW7.below HB6.out (fun k e => by have := HNE.out; have := HBL.out; omega))
      have HD1 := Aside0.mk (IsD.wsmore HD6.out hW7 (b := t2) (fun k e => .inr e) (by have := HNE.out; omega) (by omega) hT7.lt)
      have HT1 := Aside0.mk (HT6.out.wsmore hW7 (b := t2) (fun k e => .inr e) (by have := HNE.out; omega) (by omega))
      have HD2 := Aside0.mk hD7
      have HT2 := Aside0.mk hT7
      clear hD7 hT7 hW7 ht2 HD6 HT6 HI6 HG2 HG3 HG4 HGB HTL HB6
      obtain ⟨G, hG⟩ : ∃ G : Nat → Prop, (fun k => ((k = b ∨ k = t) ∨ k = b2) ∨ k = t2) = G := ⟨_, rfl⟩
      have HU1 := Aside0.mk (show ∀ k, TG t b k → G k by rw [← hG]; rintro k (rfl | rfl); exact .inl (.inl (.inr rfl)); exact .inl (.inl (.inl rfl)))
      have HU2 := Aside0.mk (show ∀ k, TG t2 b2 k → G k by rw [← hG]; rintro k (rfl | rfl); exact .inr rfl; exact .inl (.inr rfl))
      have HUW := Aside0.mk (show ∀ k, G k → W.heap.size ≤ k by rw [← hG]; have := HNE.out; have := HBL.out; intro k hk; omega)
      rw [show (fun k => ((k = b ∨ k = t) ∨ k = b2) ∨ k = t2) = G from hG] at HD1 HT1 HD2 HT2
      have HBN0 := Aside0.mk (show Bnd x (4194304 + 0) from HBN.out)
      have HLM := Aside0.mk (Kd.C_max HC2.out.2)
      clear HBN hG HAG HBD
      go_wp2_with (fail)
      go_loopw [69] (fun v69 wr => ∃ (j : Nat) (x : TS) (s : DS), j ≤ l2.length ∧ v69 = .int .i64 (j : Int) ∧ Aside0 (Okk s) ∧ Aside0 (Bnd x (4194304 + j)) ∧ Aside0 (IsD G wr b s) ∧ Aside0 (IsT G wr t b x) ∧ Aside0 (IsD G wr b2 s) ∧ Aside0 (IsT G wr t2 b2 x) ∧ Aside0 (Below W.heap.size W wr)) (fun v69 _ => (l2.length - intOf v69).toNat)
      case atStart => exact ⟨0, x, s, by omega, rfl, HOS, HBN0, HD1, HT1, HD2, HT2, HB7⟩
      case round =>
        clear HD1 HT1 HD2 HT2 HB7 HOS HBN0
        obtain ⟨j, x, s, hj, rfl, HOK, HBN, HD1, HT1, HD2, HT2, HB⟩ := hrel
        by_cases hlt : j < l2.length
        · obtain ⟨ad, A, ca, A3, c3, B, cb, e1, h0, h1, h2, h3, h4, lA, gA, l3, g3, lB, gB⟩ := at_T79 HC2.out.2 (j : Int) (by omega) (by omega)
          cases e1
          rw [Int.toNat_natCast] at h0 h1 h2 h3 h4
          have HJL := Aside0.mk hlt
          have hg := HG2.out _ (rdT_mem hlt)
          have hsm := HSM.out.2 _ (rdT_mem hlt)
          generalize rd_T79 l2 (j : Int) = el at *
          obtain ⟨op, n, bs, ls, ks⟩ := el
          simp only at h0 h1 h2 h3 h4 lA gA l3 g3 lB gB
          have HSB := Aside0.mk (show Bs bs from bs_wf hg.2.2.1)
          have HBLN := Aside0.mk (show bs.length ≤ 16384 from hsm.b)
          have hr := (Rw.came (G := G) gA lA HUW.out).below HB.out
          replace h0 := (HB.out.cell (World.block_lt_of_cell? W _ h0)).trans h0
          replace h1 := (HB.out.cell (World.block_lt_of_cell? W _ h1)).trans h1
          replace h2 := (HB.out.cell (World.block_lt_of_cell? W _ h2)).trans h2
          replace h3 := (HB.out.cell (World.block_lt_of_cell? W _ h3)).trans h3
          replace h4 := (HB.out.cell (World.block_lt_of_cell? W _ h4)).trans h4
          have HRB0 := Aside0.mk hr
          clear gA lA g3 l3 gB lB hg hsm hr
          have HLN2 := Aside0.mk (show j ≤ 4611686018427387904 ∧ j < 100 by have := HSM.out.1; omega)
          obtain ⟨k, hk⟩ : ∃ k, wr.heap.size = k := ⟨_, rfl⟩
          have HKB := Aside0.mk (show (wr.alloc (.cells #[.int .i64 op, .int .i64 n, .slice A bs.length ca, .slice A3 ls.length c3, .slice B ks.length cb] 79)).heap[k]? = some (.cells #[.int .i64 op, .int .i64 n, .slice A bs.length ca, .slice A3 ls.length c3, .slice B ks.length cb] 79 (0, 0)) by rw [← hk]; exact blk_new _ _)
          have HWB := Aside0.mk (below_alloc (Below.refl wr.heap.size wr) (.cells #[.int .i64 op, .int .i64 n, .slice A bs.length ca, .slice A3 ls.length c3, .slice B ks.length cb] 79))
          have HKN := Aside0.mk (show b < k ∧ t < k ∧ b2 < k ∧ t2 < k by
            rw [← hk]; exact ⟨HD1.out.lt b HD1.out.gg, HT1.out.lt, HD2.out.lt b2 HD2.out.gg, HT2.out.lt⟩)
          by_cases co : Go.bits .and .i64 op 7 < 5
          · have dd : decide (Go.bits .and .i64 op 7 < 5) = true := decide_eq_true co
            clear co
            go_wp2_with (fail)
            refine with_w (fun w' => w'.heap[k]? = some (.cells #[.int .i64 op, .int .i64 n, .slice A bs.length ca, .slice A3 ls.length c3, .slice B ks.length cb] 79 (0, 0)) ∧ Below wr.heap.size wr w') ⟨HKB.out, HWB.out⟩ ?_
            rintro w5 ⟨hk5, hb5⟩
            have hb5 := below_drew1 hb5
            have HKD := Aside0.mk (blk_drew hk5)
            have n1 := Aside0.mk (HD1.out.below hb5)
            have n2 := Aside0.mk (HT1.out.below hb5)
            have n3 := Aside0.mk (HD2.out.below hb5)
            have n4 := Aside0.mk (HT2.out.below hb5)
            have n5 := Aside0.mk (below_step HB.out hb5)
            have HRB := Aside0.mk (HRB0.out.below hb5)
            clear HD1 HT1 HD2 HT2 HB HRB0 hk5 hb5 HKB HWB hk h0 h1 h2 h3 h4
            have HD1 := n1
            have HT1 := n2
            have HD2 := n3
            have HT2 := n4
            have HB := n5
            clear n1 n2 n3 n4 n5
            have HOK2 := Aside0.mk (putP_okk HOK.out x bs)
            have HBN2 := Aside0.mk (HBN.out.put s bs)
            obtain ⟨⟨x2, s2, er⟩, hpu⟩ : ∃ q, putP x s bs = q := ⟨_, rfl⟩
            have HPU := Aside0.mk hpu
            rw [hpu] at HOK2 HBN2
            have de : (er != er) = false := by simp
            clear hpu
            refine start_ (n := 15) (S := fun w' => w'.heap[k]? = some (.cells #[.int .i64 op, .int .i64 n, .slice A bs.length ca, .slice A3 ls.length c3, .slice B ks.length cb] 79 (0, 0))) (ds := []) #[false, false, false, false, false, false, false, false, false, false, false, false, false, false, false] (by kernel_rfl) rfl rfl (HKD.out) (fun hHeld => ?_)
            refine pure_ (i := 0) (N := some 73) (v := ?_) (a' := ?_) #[true, false, false, false, false, false, false, false, false, false, false, false, false, false, false] rfl rfl (by kernel_rfl) (fun _ _ _ h => h) (Or.inl ⟨by rfl, ?_⟩) ?_ ?_
            rotate_left
            · intro w'
              go_simp
              with_reducible rfl
            rotate_left
            · simp only [Act.put, List.setIfInBounds_toArray, List.set_cons_zero, List.set_cons_succ, i64_w, i32_w]
              rfl
            refine take_ (i := 1) (N := some 74) (v := ?_) (a' := ?_) #[true, true, false, false, false, false, false, false, false, false, false, false, false, false, false] rfl rfl (by kernel_rfl) (fun _ _ _ h => h) (Or.inl ⟨by rfl, ?_⟩) hHeld ?_ ?_
            rotate_left
            · intro w' s0
              have d2_ := (blk_cell s0 0).trans (show _ = some (Value.int .i64 op) from rfl)
              go_simp
              with_reducible rfl
            rotate_left
            · simp only [Act.put, List.setIfInBounds_toArray, List.set_cons_zero, List.set_cons_succ, i64_w, i32_w]
              rfl
            refine pure_ (i := 2) (N := some 75) (v := ?_) (a' := ?_) #[true, true, true, false, false, false, false, false, false, false, false, false, false, false, false] rfl rfl (by kernel_rfl) (fun _ _ _ h => h) (Or.inl ⟨by rfl, ?_⟩) ?_ ?_
            rotate_left
            · intro w'
              go_simp
              with_reducible rfl
            rotate_left
            · simp only [Act.put, List.setIfInBounds_toArray, List.set_cons_zero, List.set_cons_succ, i64_w, i32_w]
              rfl
            refine pure_ (i := 3) (N := some 76) (v := ?_) (a' := ?_) #[true, true, true, true, false, false, false, false, false, false, false, false, false, false, false] rfl rfl (by kernel_rfl) (fun _ _ _ h => h) (Or.inl ⟨by rfl, ?_⟩) ?_ ?_
            rotate_left
            · intro w'
              go_simp
              with_reducible rfl
            rotate_left
            · simp only [Act.put, List.setIfInBounds_toArray, List.set_cons_zero, List.set_cons_succ, i64_w, i32_w]
              rfl
            refine pure_ (i := 4) (N := some 77) (v := ?_) (a' := ?_) #[true, true, true, true, true, false, false, false, false, false, false, false, false, false, false] rfl rfl (by kernel_rfl) (fun _ _ _ h => h) (Or.inl ⟨by rfl, ?_⟩) ?_ ?_
            rotate_left
            · intro w'
              go_simp
              with_reducible rfl
            rotate_left
            · simp only [Act.put, List.setIfInBounds_toArray, List.set_cons_zero, List.set_cons_succ, i64_w, i32_w]
              rfl
            refine pure_ (i := 5) (N := some 78) (v := ?_) (a' := ?_) #[true, true, true, true, true, true, false, false, false, false, false, false, false, false, false] rfl rfl (by kernel_rfl) (fun _ _ _ h => h) (Or.inl ⟨by rfl, ?_⟩) ?_ ?_
            rotate_left
            · intro w'
              go_simp
              with_reducible rfl
            rotate_left
            · simp only [Act.put, List.setIfInBounds_toArray, List.set_cons_zero, List.set_cons_succ, i64_w, i32_w]
              rfl
            refine pure_ (i := 6) (N := some 79) (v := ?_) (a' := ?_) #[true, true, true, true, true, true, true, false, false, false, false, false, false, false, false] rfl rfl (by kernel_rfl) (fun _ _ _ h => h) (Or.inl ⟨by rfl, ?_⟩) ?_ ?_
            rotate_left
            · intro w'
              go_simp
              with_reducible rfl
            rotate_left
            · simp only [Act.put, List.setIfInBounds_toArray, List.set_cons_zero, List.set_cons_succ, i64_w, i32_w]
              rfl
            refine pure_ (i := 9) (N := some 82) (v := ?_) (a' := ?_) #[true, true, true, true, true, true, true, false, false, true, false, false, false, false, false] rfl rfl (by kernel_rfl) (fun _ _ _ h => h) (Or.inl ⟨by rfl, ?_⟩) ?_ ?_
            rotate_left
            · intro w'
              go_simp
              with_reducible rfl
            rotate_left
            · simp only [Act.put, List.setIfInBounds_toArray, List.set_cons_zero, List.set_cons_succ, i64_w, i32_w]
              rfl
            refine pure_ (i := 10) (N := some 83) (v := ?_) (a' := ?_) #[true, true, true, true, true, true, true, false, false, true, true, false, false, false, false] rfl rfl (by kernel_rfl) (fun _ _ _ h => h) (Or.inl ⟨by rfl, ?_⟩) ?_ ?_
            rotate_left
            · intro w'
              go_simp
              with_reducible rfl
            rotate_left
            · simp only [Act.put, List.setIfInBounds_toArray, List.set_cons_zero, List.set_cons_succ, i64_w, i32_w]
              rfl
            refine take_ (i := 7) (N := some 80) (v := ?_) (a' := ?_) #[true, true, true, true, true, true, true, true, false, true, true, false, false, false, false] rfl rfl (by kernel_rfl) (fun _ _ _ h => h) (Or.inl ⟨by rfl, ?_⟩) hHeld ?_ ?_
            rotate_left
            · intro w' s0
              have d2_ := (blk_cell s0 2).trans (show _ = some (Value.slice A bs.length ca) from rfl)
              go_simp
              with_reducible rfl
            rotate_left
            · simp only [Act.put, List.setIfInBounds_toArray, List.set_cons_zero, List.set_cons_succ, i64_w, i32_w]
              rfl
            refine take_ (i := 11) (N := some 84) (v := ?_) (a' := ?_) #[true, true, true, true, true, true, true, true, false, true, true, true, false, false, false] rfl rfl (by kernel_rfl) (fun _ _ _ h => h) (Or.inl ⟨by rfl, ?_⟩) hHeld ?_ ?_
            rotate_left
            · intro w' s0
              have d2_ := (blk_cell s0 2).trans (show _ = some (Value.slice A bs.length ca) from rfl)
              go_simp
              with_reducible rfl
            rotate_left
            · simp only [Act.put, List.setIfInBounds_toArray, List.set_cons_zero, List.set_cons_succ, i64_w, i32_w]
              rfl
            refine one_ (i := 8) (N := some 81) #[true, true, true, true, true, true, true, true, true, true, true, true, false, false, false] rfl rfl (by kernel_rfl) (by decide) (fun K hK => ?_)
            refine goes_ Try.func24 (by kernel_rfl) rfl #[.pointer (some ⟨t, 0, none⟩), .slice A bs.length ca] (by rfl) rfl rfl (by first | rfl | (simp; done) | (simp only [List.map_toArray, List.map_cons, List.map_nil]; rfl)) ?_
            with_reducible refine (TPut_calls G t b x s _ bs _ HT1.out HD1.out HOK.out HRB.out HSB.out (by have := HBLN.out; omega) (by have := HBN.out.many; have := HLN2.out; omega)).mono ?_
            rw [HPU.out]
            rintro e w6 ⟨rfl, hT, hD, hW⟩
            refine ⟨_, rfl, ?_⟩
            have n0_ := Aside0.mk (hD)
            clear HD1
            have HD1 := n0_
            clear n0_
            have n0_ := Aside0.mk (hT)
            clear HT1
            have HT1 := n0_
            clear n0_
            have n0_ := Aside0.mk (IsD.ws HD2.out hW HU1.out (by have := HNE.out; unfold TG; omega))
            clear HD2
            have HD2 := n0_
            clear n0_
            have n0_ := Aside0.mk (HT2.out.ws hW HU1.out (by have := HNE.out; unfold TG; omega))
            clear HT2
            have HT2 := n0_
            clear n0_
            have n0_ := Aside0.mk (Rw.ws HRB.out hW HU1.out)
            clear HRB
            have HRB := n0_
            clear n0_
            have n0_ := Aside0.mk (hW.below HB.out (fun k hk => HUW.out k (HU1.out k hk)))
            clear HB
            have HB := n0_
            clear n0_
            refine hK.out _ _ ((hW.block k (blk_lt hHeld) (by have := HKN.out; have := HNE.out; unfold TG; omega)).trans hHeld) (fun hHeld => ?_)
            clear hK K
            refine norm_ (a' := ?_) ?_ ?_
            rotate_left
            · show Act.put _ (some 81) _ = _
              simp only [Act.put, List.setIfInBounds_toArray, List.set_cons_zero, List.set_cons_succ, i64_w, i32_w]
              rfl
            refine one_ (i := 12) (N := some 85) #[true, true, true, true, true, true, true, true, true, true, true, true, true, false, false] rfl rfl (by kernel_rfl) (by decide) (fun K hK => ?_)
            refine goes_ Try.func24 (by kernel_rfl) rfl #[.pointer (some ⟨t2, 0, none⟩), .slice A bs.length ca] (by rfl) rfl rfl (by first | rfl | (simp; done) | (simp only [List.map_toArray, List.map_cons, List.map_nil]; rfl)) ?_
            with_reducible refine (TPut_calls G t2 b2 x s _ bs _ HT2.out HD2.out HOK.out HRB.out HSB.out (by have := HBLN.out; omega) (by have := HBN.out.many; have := HLN2.out; omega)).mono ?_
            rw [HPU.out]
            rintro e w6 ⟨rfl, hT, hD, hW⟩
            refine ⟨_, rfl, ?_⟩
            have n0_ := Aside0.mk (hD)
            clear HD2
            have HD2 := n0_
            clear n0_
            have n0_ := Aside0.mk (hT)
            clear HT2
            have HT2 := n0_
            clear n0_
            have n0_ := Aside0.mk (IsD.ws HD1.out hW HU2.out (by have := HNE.out; unfold TG; omega))
            clear HD1
            have HD1 := n0_
            clear n0_
            have n0_ := Aside0.mk (HT1.out.ws hW HU2.out (by have := HNE.out; unfold TG; omega))
            clear HT1
            have HT1 := n0_
            clear n0_
            have n0_ := Aside0.mk (Rw.ws HRB.out hW HU2.out)
            clear HRB
            have HRB := n0_
            clear n0_
            have n0_ := Aside0.mk (hW.below HB.out (fun k hk => HUW.out k (HU2.out k hk)))
            clear HB
            have HB := n0_
            clear n0_
            refine hK.out _ _ ((hW.block k (blk_lt hHeld) (by have := HKN.out; have := HNE.out; unfold TG; omega)).trans hHeld) (fun hHeld => ?_)
            clear hK K
            refine norm_ (a' := ?_) ?_ ?_
            rotate_left
            · show Act.put _ (some 85) _ = _
              simp only [Act.put, List.setIfInBounds_toArray, List.set_cons_zero, List.set_cons_succ, i64_w, i32_w]
              rfl
            refine pure_ (i := 13) (N := some 86) (v := ?_) (a' := ?_) #[true, true, true, true, true, true, true, true, true, true, true, true, true, true, false] rfl rfl (by kernel_rfl) (fun _ _ _ h => h) (Or.inl ⟨by rfl, ?_⟩) ?_ ?_
            rotate_left
            · intro w'
              go_simp
              with_reducible rfl
            rotate_left
            · simp only [Act.put, List.setIfInBounds_toArray, List.set_cons_zero, List.set_cons_succ, i64_w, i32_w]
              rfl
            refine pure_ (i := 14) (N := some 87) (v := ?_) (a' := ?_) #[true, true, true, true, true, true, true, true, true, true, true, true, true, true, true] rfl rfl (by kernel_rfl) (fun _ _ _ h => h) (Or.inl ⟨by rfl, ?_⟩) ?_ ?_
            rotate_left
            · intro w'
              go_simp
              with_reducible rfl
            rotate_left
            · simp only [Act.put, List.setIfInBounds_toArray, List.set_cons_zero, List.set_cons_succ, i64_w, i32_w]
              rfl
            refine done_ (by kernel_rfl) ?_
            go_wp2_with (fail)
            go_roundw
            case rel => exact ⟨j + 1, x2, s2, by have := HJL.out; omega, by rw [wrap_succ HJL.out HLM.out], HOK2, HBN2, HD1, HT1, HD2, HT2, HB⟩
            case measure =>
              rw [wrap_succ HJL.out HLM.out]
              have := HJL.out
              simp [intOf]; omega
          · have dd : decide (Go.bits .and .i64 op 7 < 5) = false := decide_eq_false co
            clear co
            go_wp2_with (fail)
            refine with_w (fun w' => w'.heap[k]? = some (.cells #[.int .i64 op, .int .i64 n, .slice A bs.length ca, .slice A3 ls.length c3, .slice B ks.length cb] 79 (0, 0)) ∧ Below wr.heap.size wr w') ⟨HKB.out, HWB.out⟩ ?_
            rintro w5 ⟨hk5, hb5⟩
            have hc0 := (blk_cell hk5 0).trans (show _ = some (Value.int .i64 op) from rfl)
            have HB5 := Aside0.mk hb5
            clear hk5 hb5 HKB HWB hk h0 h1 h2 h3 h4
            go_quiet (fail)
            go_wp2_with (fail)
            have HBQ := Aside0.mk (pw_below_drewN HB5.out nq)
            go_roundw
            case rel => exact ⟨j + 1, x, s, by have := HJL.out; omega, by rw [wrap_succ HJL.out HLM.out], HOK, ⟨⟨HBN.out.base, by have := HBN.out.many; omega, HBN.out.l⟩⟩, ⟨HD1.out.below HBQ.out⟩, ⟨HT1.out.below HBQ.out⟩, ⟨HD2.out.below HBQ.out⟩, ⟨HT2.out.below HBQ.out⟩, ⟨below_step HB.out HBQ.out⟩⟩
            case measure =>
              rw [wrap_succ HJL.out HLM.out]
              have := HJL.out
              simp [intOf]; omega
        · obtain rfl : j = l2.length := by omega
          generalize wr = wo at *
          have HLN2 := Aside0.mk (show l2.length < 100 by have := HSM.out.1; omega)
          go_wp2_with (fail)
          refine start_ (n := 18) (S := fun w' => Below wo.heap.size wo w') (ds := []) #[false, false, false, false, false, false, false, false, false, false, false, false, false, false, false, false, false, false] (by kernel_rfl) rfl rfl (below_drew1 (Below.refl _ _)) (fun hHeld => ?_)
          refine pure_ (i := 0) (N := some 89) (v := ?_) (a' := ?_) #[true, false, false, false, false, false, false, false, false, false, false, false, false, false, false, false, false, false] rfl rfl (by kernel_rfl) (fun _ _ _ h => h) (Or.inl ⟨by rfl, ?_⟩) ?_ ?_
          rotate_left
          · intro w'
            go_simp
            with_reducible rfl
          rotate_left
          · simp only [Act.put, List.setIfInBounds_toArray, List.set_cons_zero, List.set_cons_succ, i64_w, i32_w]
            rfl
          refine pure_ (i := 3) (N := some 92) (v := ?_) (a' := ?_) #[true, false, false, true, false, false, false, false, false, false, false, false, false, false, false, false, false, false] rfl rfl (by kernel_rfl) (fun _ _ _ h => h) (Or.inl ⟨by rfl, ?_⟩) ?_ ?_
          rotate_left
          · intro w'
            go_simp
            with_reducible rfl
          rotate_left
          · simp only [Act.put, List.setIfInBounds_toArray, List.set_cons_zero, List.set_cons_succ, i64_w, i32_w]
            rfl
          refine one_ (i := 1) (N := some 90) #[true, true, false, true, false, false, false, false, false, false, false, false, false, false, false, false, false, false] rfl rfl (by kernel_rfl) (by decide) (fun K hK => ?_)
          refine goes_ Try.func29 (by kernel_rfl) rfl #[.pointer (some ⟨t, 0, none⟩)] (by rfl) rfl rfl (by first | rfl | (simp; done) | (simp only [List.map_toArray, List.map_cons, List.map_nil]; rfl)) ?_
          with_reducible refine (Base_calls G t b x _ (HT1.out.below hHeld) (by have := HBN.out.base; omega)).mono ?_
          rintro e w6 ⟨v, rfl, hR, hb⟩
          refine ⟨_, rfl, ?_⟩
          obtain ⟨P1, p1, e6⟩ := Kd.R_slice hR
          subst e6
          have HP1 := Aside0.mk (Kd.R_reads' hR).2.2
          clear hR
          refine hK.out _ _ (below_step hHeld hb) (fun hHeld => ?_)
          clear hK K
          refine norm_ (a' := ?_) ?_ ?_
          rotate_left
          · show Act.put _ (some 90) _ = _
            simp only [Act.put, List.setIfInBounds_toArray, List.set_cons_zero, List.set_cons_succ, i64_w, i32_w]
            rfl
          refine join_ (σ := Option Addr × Nat) 12 #[true, true, true, true, true, true, false, false, false, false, false, false, false, false, false, false, false, false] (fun s => [(91, .string (strOfNums x.r.base)), (93, .slice s.1 x.r.base.length s.2), (94, .string (strOfNums x.r.base))]) (fun s w' => Below wo.heap.size wo w') ?_ ?_
          rotate_left
          · intro hCont
            refine two_ (i := 2) (j := 4) (Ni := some 91) (Nj := some 93) #[true, true, true, true, false, false, false, false, false, false, false, false, false, false, false, false, false, false] #[true, true, false, true, true, false, false, false, false, false, false, false, false, false, false, false, false, false] rfl rfl rfl rfl (by kernel_rfl) (by decide) (by decide) (fun K hK => ?_) (fun K hK => ?_)
            · skip
              have hk_ := Kd.C_string (P := Try.prog) (A := P1) (c := p1) Try.underlying32 Try.underlying5 Try.underlying9 HP1.out
              refine value_ (w1 := ?_) (v := ?_) (by rfl) rfl ?_ ?_
              rotate_left 2
              · go_simp
                constructor
                · rfl
                · rfl
              refine hK.out _ _ (hHeld) (fun hHeld => ?_)
              clear hK K
              refine norm_ (a' := ?_) ?_ ?_
              rotate_left
              · show Act.put _ (some 91) _ = _
                simp only [Act.put, List.setIfInBounds_toArray, List.set_cons_zero, List.set_cons_succ, i64_w, i32_w]
                rfl
              refine one_ (i := 4) (N := some 93) #[true, true, true, true, true, false, false, false, false, false, false, false, false, false, false, false, false, false] rfl rfl (by kernel_rfl) (by decide) (fun K hK => ?_)
              refine goes_ Try.func29 (by kernel_rfl) rfl #[.pointer (some ⟨t2, 0, none⟩)] (by rfl) rfl rfl (by first | rfl | (simp; done) | (simp only [List.map_toArray, List.map_cons, List.map_nil]; rfl)) ?_
              with_reducible refine (Base_calls G t2 b2 x _ (HT2.out.below hHeld) (by have := HBN.out.base; omega)).mono ?_
              rintro e w6 ⟨v, rfl, hR, hb⟩
              refine ⟨_, rfl, ?_⟩
              obtain ⟨P2, p2, e6⟩ := Kd.R_slice hR
              subst e6
              have HP2 := Aside0.mk (Kd.R_reads' hR).2.2
              clear hR
              refine hK.out _ _ (below_step hHeld hb) (fun hHeld => ?_)
              clear hK K
              refine norm_ (a' := ?_) ?_ ?_
              rotate_left
              · show Act.put _ (some 93) _ = _
                simp only [Act.put, List.setIfInBounds_toArray, List.set_cons_zero, List.set_cons_succ, i64_w, i32_w]
                rfl
              refine one_ (i := 5) (N := some 94) #[true, true, true, true, true, true, false, false, false, false, false, false, false, false, false, false, false, false] rfl rfl (by kernel_rfl) (by decide) (fun K hK => ?_)
              have hk_ := Kd.C_string (P := Try.prog) (A := P2) (c := p2) Try.underlying32 Try.underlying5 Try.underlying9 HP2.out
              refine value_ (w1 := ?_) (v := ?_) (by rfl) rfl ?_ ?_
              rotate_left 2
              · go_simp
                constructor
                · rfl
                · rfl
              refine hK.out _ _ (hHeld) (fun hHeld => ?_)
              clear hK K
              refine norm_ (a' := ?_) ?_ ?_
              rotate_left
              · show Act.put _ (some 94) _ = _
                simp only [Act.put, List.setIfInBounds_toArray, List.set_cons_zero, List.set_cons_succ, i64_w, i32_w]
                rfl
              exact norm_ (by simp only [putAll, Act.put, List.setIfInBounds_toArray, List.set_cons_zero, List.set_cons_succ]) (hCont ⟨P2, p2⟩ _ hHeld)
            · skip
              refine goes_ Try.func29 (by kernel_rfl) rfl #[.pointer (some ⟨t2, 0, none⟩)] (by rfl) rfl rfl (by first | rfl | (simp; done) | (simp only [List.map_toArray, List.map_cons, List.map_nil]; rfl)) ?_
              with_reducible refine (Base_calls G t2 b2 x _ (HT2.out.below hHeld) (by have := HBN.out.base; omega)).mono ?_
              rintro e w6 ⟨v, rfl, hR, hb⟩
              refine ⟨_, rfl, ?_⟩
              obtain ⟨P2, p2, e6⟩ := Kd.R_slice hR
              subst e6
              have HP2 := Aside0.mk (Kd.R_reads' hR).2.2
              clear hR
              have n0_ := Aside0.mk (Kd.C_below HP1.out hb)
              clear HP1
              have HP1 := n0_
              clear n0_
              refine hK.out _ _ (below_step hHeld hb) (fun hHeld => ?_)
              clear hK K
              refine norm_ (a' := ?_) ?_ ?_
              rotate_left
              · show Act.put _ (some 93) _ = _
                simp only [Act.put, List.setIfInBounds_toArray, List.set_cons_zero, List.set_cons_succ, i64_w, i32_w]
                rfl
              refine two_ (i := 2) (j := 5) (Ni := some 91) (Nj := some 94) #[true, true, true, true, true, false, false, false, false, false, false, false, false, false, false, false, false, false] #[true, true, false, true, true, true, false, false, false, false, false, false, false, false, false, false, false, false] rfl rfl rfl rfl (by kernel_rfl) (by decide) (by decide) (fun K hK => ?_) (fun K hK => ?_)
              · skip
                have hk_ := Kd.C_string (P := Try.prog) (A := P1) (c := p1) Try.underlying32 Try.underlying5 Try.underlying9 HP1.out
                refine value_ (w1 := ?_) (v := ?_) (by rfl) rfl ?_ ?_
                rotate_left 2
                · go_simp
                  constructor
                  · rfl
                  · rfl
                refine hK.out _ _ (hHeld) (fun hHeld => ?_)
                clear hK K
                refine norm_ (a' := ?_) ?_ ?_
                rotate_left
                · show Act.put _ (some 91) _ = _
                  simp only [Act.put, List.setIfInBounds_toArray, List.set_cons_zero, List.set_cons_succ, i64_w, i32_w]
                  rfl
                refine one_ (i := 5) (N := some 94) #[true, true, true, true, true, true, false, false, false, false, false, false, false, false, false, false, false, false] rfl rfl (by kernel_rfl) (by decide) (fun K hK => ?_)
                have hk_ := Kd.C_string (P := Try.prog) (A := P2) (c := p2) Try.underlying32 Try.underlying5 Try.underlying9 HP2.out
                refine value_ (w1 := ?_) (v := ?_) (by rfl) rfl ?_ ?_
                rotate_left 2
                · go_simp
                  constructor
                  · rfl
                  · rfl
                refine hK.out _ _ (hHeld) (fun hHeld => ?_)
                clear hK K
                refine norm_ (a' := ?_) ?_ ?_
                rotate_left
                · show Act.put _ (some 94) _ = _
                  simp only [Act.put, List.setIfInBounds_toArray, List.set_cons_zero, List.set_cons_succ, i64_w, i32_w]
                  rfl
                exact norm_ (by simp only [putAll, Act.put, List.setIfInBounds_toArray, List.set_cons_zero, List.set_cons_succ]) (hCont ⟨P2, p2⟩ _ hHeld)
              · skip
                have hk_ := Kd.C_string (P := Try.prog) (A := P2) (c := p2) Try.underlying32 Try.underlying5 Try.underlying9 HP2.out
                refine value_ (w1 := ?_) (v := ?_) (by rfl) rfl ?_ ?_
                rotate_left 2
                · go_simp
                  constructor
                  · rfl
                  · rfl
                refine hK.out _ _ (hHeld) (fun hHeld => ?_)
                clear hK K
                refine norm_ (a' := ?_) ?_ ?_
                rotate_left
                · show Act.put _ (some 94) _ = _
                  simp only [Act.put, List.setIfInBounds_toArray, List.set_cons_zero, List.set_cons_succ, i64_w, i32_w]
                  rfl
                refine one_ (i := 2) (N := some 91) #[true, true, true, true, true, true, false, false, false, false, false, false, false, false, false, false, false, false] rfl rfl (by kernel_rfl) (by decide) (fun K hK => ?_)
                have hk_ := Kd.C_string (P := Try.prog) (A := P1) (c := p1) Try.underlying32 Try.underlying5 Try.underlying9 HP1.out
                refine value_ (w1 := ?_) (v := ?_) (by rfl) rfl ?_ ?_
                rotate_left 2
                · go_simp
                  constructor
                  · rfl
                  · rfl
                refine hK.out _ _ (hHeld) (fun hHeld => ?_)
                clear hK K
                refine norm_ (a' := ?_) ?_ ?_
                rotate_left
                · show Act.put _ (some 91) _ = _
                  simp only [Act.put, List.setIfInBounds_toArray, List.set_cons_zero, List.set_cons_succ, i64_w, i32_w]
                  rfl
                exact norm_ (by simp only [putAll, Act.put, List.setIfInBounds_toArray, List.set_cons_zero, List.set_cons_succ]) (hCont ⟨P2, p2⟩ _ hHeld)
          rintro ⟨P2, p2⟩ w6 h6
          have hHeld := h6
          refine norm_ (a' := ?_) ?_ ?_
          rotate_left
          · simp only [putAll, Act.put, List.setIfInBounds_toArray, List.set_cons_zero, List.set_cons_succ]
            rfl
          refine pure_ (i := 6) (N := some 95) (v := ?_) (a' := ?_) #[true, true, true, true, true, true, true, false, false, false, false, false, false, false, false, false, false, false] rfl rfl (by kernel_rfl) (fun _ _ _ h => h) (Or.inl ⟨by rfl, ?_⟩) ?_ ?_
          rotate_left
          · intro w'
            go_simp
            with_reducible rfl
          rotate_left
          · simp only [Act.put, List.setIfInBounds_toArray, List.set_cons_zero, List.set_cons_succ, i64_w, i32_w]
            rfl
          refine pure_ (i := 7) (N := some 96) (v := ?_) (a' := ?_) #[true, true, true, true, true, true, true, true, false, false, false, false, false, false, false, false, false, false] rfl rfl (by kernel_rfl) (fun _ _ _ h => h) (Or.inl ⟨by rfl, ?_⟩) ?_ ?_
          rotate_left
          · intro w'
            go_simp
            with_reducible rfl
          rotate_left
          · simp only [Act.put, List.setIfInBounds_toArray, List.set_cons_zero, List.set_cons_succ, i64_w, i32_w]
            rfl
          refine pure_ (i := 8) (N := some 97) (v := ?_) (a' := ?_) #[true, true, true, true, true, true, true, true, true, false, false, false, false, false, false, false, false, false] rfl rfl (by kernel_rfl) (fun _ _ _ h => h) (Or.inl ⟨by rfl, ?_⟩) ?_ ?_
          rotate_left
          · intro w'
            go_simp
            with_reducible rfl
          rotate_left
          · simp only [Act.put, List.setIfInBounds_toArray, List.set_cons_zero, List.set_cons_succ, i64_w, i32_w]
            rfl
          refine pure_ (i := 10) (N := some 99) (v := ?_) (a' := ?_) #[true, true, true, true, true, true, true, true, true, false, true, false, false, false, false, false, false, false] rfl rfl (by kernel_rfl) (fun _ _ _ h => h) (Or.inl ⟨by rfl, ?_⟩) ?_ ?_
          rotate_left
          · intro w'
            go_simp
            with_reducible rfl
          rotate_left
          · simp only [Act.put, List.setIfInBounds_toArray, List.set_cons_zero, List.set_cons_succ, i64_w, i32_w]
            rfl
          refine one_ (i := 9) (N := some 98) #[true, true, true, true, true, true, true, true, true, true, true, false, false, false, false, false, false, false] rfl rfl (by kernel_rfl) (by decide) (fun K hK => ?_)
          refine goes_ Try.func40 (by kernel_rfl) rfl #[.pointer (some ⟨t, 0, none⟩)] (by rfl) rfl rfl (by first | rfl | (simp; done) | (simp only [List.map_toArray, List.map_cons, List.map_nil]; rfl)) ?_
          with_reducible refine (records_calls G t b x _ (HT1.out.below hHeld) (by have := HBN.out.many; have := HLN2.out; omega) (fun d hd => by have := HBN.out.l d hd; omega)).mono ?_
          rintro e w7 ⟨v, rfl, hR, hb⟩
          refine ⟨_, rfl, ?_⟩
          obtain ⟨Q1, q1, e7⟩ := Kd.R_slice hR
          subst e7
          have HQ1 := Aside0.mk (And.intro (Kd.R_reads' hR).2.1 (Kd.R_reads' hR).2.2)
          clear hR
          refine hK.out _ _ (below_step hHeld hb) (fun hHeld => ?_)
          clear hK K
          refine norm_ (a' := ?_) ?_ ?_
          rotate_left
          · show Act.put _ (some 98) _ = _
            simp only [Act.put, List.setIfInBounds_toArray, List.set_cons_zero, List.set_cons_succ, i64_w, i32_w]
            rfl
          refine one_ (i := 11) (N := some 100) #[true, true, true, true, true, true, true, true, true, true, true, true, false, false, false, false, false, false] rfl rfl (by kernel_rfl) (by decide) (fun K hK => ?_)
          refine goes_ Try.func40 (by kernel_rfl) rfl #[.pointer (some ⟨t2, 0, none⟩)] (by rfl) rfl rfl (by first | rfl | (simp; done) | (simp only [List.map_toArray, List.map_cons, List.map_nil]; rfl)) ?_
          with_reducible refine (records_calls G t2 b2 x _ (HT2.out.below hHeld) (by have := HBN.out.many; have := HLN2.out; omega) (fun d hd => by have := HBN.out.l d hd; omega)).mono ?_
          rintro e w7 ⟨v, rfl, hR, hb⟩
          refine ⟨_, rfl, ?_⟩
          obtain ⟨Q2, q2, e7⟩ := Kd.R_slice hR
          subst e7
          have HQ2 := Aside0.mk (And.intro (Kd.R_reads' hR).2.1 (Kd.R_reads' hR).2.2)
          clear hR
          have n0_ := Aside0.mk (And.intro HQ1.out.1 (Kd.C_below HQ1.out.2 hb))
          clear HQ1
          have HQ1 := n0_
          clear n0_
          refine hK.out _ _ (below_step hHeld hb) (fun hHeld => ?_)
          clear hK K
          refine norm_ (a' := ?_) ?_ ?_
          rotate_left
          · show Act.put _ (some 100) _ = _
            simp only [Act.put, List.setIfInBounds_toArray, List.set_cons_zero, List.set_cons_succ, i64_w, i32_w]
            rfl
          refine one_ (i := 12) (N := some 101) #[true, true, true, true, true, true, true, true, true, true, true, true, true, false, false, false, false, false] rfl rfl (by kernel_rfl) (by decide) (fun K hK => ?_)
          refine goes_ Try.func39 (by kernel_rfl) rfl #[.slice Q1 (x.r.l.map strOfNums).length q1, .slice Q2 (x.r.l.map strOfNums).length q2] (by rfl) rfl rfl (by first | rfl | (simp; done) | (simp only [List.map_toArray, List.map_cons, List.map_nil]; rfl)) ?_
          with_reducible refine (strs_calls Q1 q1 _ Q2 q2 _ _ HQ1.out.2 HQ1.out.1 HQ2.out.2 HQ2.out.1).mono ?_
          rw [eqSt_self]
          rintro e w8 ⟨rfl, ⟨n8, rfl⟩⟩
          refine ⟨_, rfl, ?_⟩
          refine hK.out _ _ (pw_below_drewN hHeld n8) (fun hHeld => ?_)
          clear hK K
          refine norm_ (a' := ?_) ?_ ?_
          rotate_left
          · show Act.put _ (some 101) _ = _
            simp only [Act.put, List.setIfInBounds_toArray, List.set_cons_zero, List.set_cons_succ, i64_w, i32_w]
            rfl
          refine pure_ (i := 13) (N := some 102) (v := ?_) (a' := ?_) #[true, true, true, true, true, true, true, true, true, true, true, true, true, true, false, false, false, false] rfl rfl (by kernel_rfl) (fun _ _ _ h => h) (Or.inl ⟨by rfl, ?_⟩) ?_ ?_
          rotate_left
          · intro w'
            go_simp
            with_reducible rfl
          rotate_left
          · simp only [Act.put, List.setIfInBounds_toArray, List.set_cons_zero, List.set_cons_succ, i64_w, i32_w]
            rfl
          refine pure_ (i := 14) (N := some 103) (v := ?_) (a' := ?_) #[true, true, true, true, true, true, true, true, true, true, true, true, true, true, true, false, false, false] rfl rfl (by kernel_rfl) (fun _ _ _ h => h) (Or.inl ⟨by rfl, ?_⟩) ?_ ?_
          rotate_left
          · intro w'
            go_simp
            with_reducible rfl
          rotate_left
          · simp only [Act.put, List.setIfInBounds_toArray, List.set_cons_zero, List.set_cons_succ, i64_w, i32_w]
            rfl
          refine one_ (i := 15) (N := some 104) #[true, true, true, true, true, true, true, true, true, true, true, true, true, true, true, true, false, false] rfl rfl (by kernel_rfl) (by decide) (fun K hK => ?_)
          refine goes_ Try.func31 (by kernel_rfl) rfl #[] (by rfl) rfl rfl (by first | rfl | (simp; done) | (simp only [List.map_toArray, List.map_cons, List.map_nil]; rfl)) ?_
          with_reducible refine (Tp.awake_calls _).mono ?_
          rintro e w9 ⟨rfl, hb⟩
          refine ⟨_, rfl, ?_⟩
          refine hK.out _ _ (below_step hHeld hb) (fun hHeld => ?_)
          clear hK K
          refine norm_ (a' := ?_) ?_ ?_
          rotate_left
          · show Act.put _ (some 104) _ = _
            simp only [Act.put, List.setIfInBounds_toArray, List.set_cons_zero, List.set_cons_succ, i64_w, i32_w]
            rfl
          refine pure_ (i := 16) (N := some 105) (v := ?_) (a' := ?_) #[true, true, true, true, true, true, true, true, true, true, true, true, true, true, true, true, true, false] rfl rfl (by kernel_rfl) (fun _ _ _ h => h) (Or.inl ⟨by rfl, ?_⟩) ?_ ?_
          rotate_left
          · intro w'
            go_simp
            with_reducible rfl
          rotate_left
          · simp only [Act.put, List.setIfInBounds_toArray, List.set_cons_zero, List.set_cons_succ, i64_w, i32_w]
            rfl
          refine pure_ (i := 17) (N := some 6) (v := ?_) (a' := ?_) #[true, true, true, true, true, true, true, true, true, true, true, true, true, true, true, true, true, true] rfl rfl (by kernel_rfl) (fun _ _ _ h => h) (Or.inl ⟨by rfl, ?_⟩) ?_ ?_
          rotate_left
          · intro w'
            go_simp
            with_reducible rfl
          rotate_left
          · simp only [Act.put, List.setIfInBounds_toArray, List.set_cons_zero, List.set_cons_succ, i64_w, i32_w]
            rfl
          refine done_ (by kernel_rfl) ?_
          have HBE := Aside0.mk (below_step HB.out hHeld)
          clear hHeld
          go_wp2_with (fail)
          go_ret
          exact ⟨rfl, HBE.out⟩
end Go.Proofs.Ytehjbhnlbjbhfaa.Wk
-- WSized
namespace Go.Proofs.YtehjbhnlbjbhfaaW.PrintWords
open Go.ChangeShapes Go.WideShapes
end Go.Proofs.YtehjbhnlbjbhfaaW.PrintWords
-- LawTapeAgain
namespace Go.Proofs.Ytehjbhnlbjbhfaa.tapeAgain
open Go.ChangeShapes Go.WideShapes Go.ChangeAt Go.RowKit
open Go.ChangeMaps (open_string shut_string)
set_option linter.unusedVariables false
theorem own : ownKnob Try.prog.godebug = none := by kernel_rfl
theorem laidOut : laidOutB Try.prog = true := by kernel_rfl
set_option maxRecDepth 100000 in
theorem lifted (os : Os) (started : os.Started) (H : Type) (enc : TypeId × Value → H) :
    ReturnsInHanded {} Try.checked os 6 .any (Rows.tapeAgainSpec.pre6 enc Try.prog Try.f6 Rows.tapeAgainRow.domain false) (Rows.tapeAgainSpec.post enc Try.prog Try.f6 false true false false) := by
  refine returnsInHanded_of_change_sized (C := Try.checked) own started (by kernel_rfl) Try.func6
    (ChangeSpec.witness6 (enc := enc) (C := Try.checked) false ⟨#[], #[.slice none 0 0, .slice none 0 0, .slice none 0 0], []⟩ 8 (by kernel_rfl) (by kernel_rfl) (by kernel_rfl) (by kernel_rfl)) ?_
  intro W base args ds gs before hval0 hW hcnd hsz0 _
  have hval : ∀ (j : Nat) t v, Try.f6.params[j]? = some t → args[j]? = some v → Value.okWide Try.prog W .any base t v := hval0
  have hW' := hW
  obtain ⟨p, q, hA0, hV, rfl, hfz, hnd⟩ := hW
  have hA : DataW.TrodAll enc Try.prog W 0 (fun _ => true) true Try.f6.params.toList args.toList ds p := hA0
  rw [Try.params6] at hA hval
  obtain ⟨v0, vs0, d0, ds0, p0, q0, hargs, rfl, rfl, h0, r0⟩ := trodAll_cons hA
  obtain ⟨v1, vs1, d1, ds1, p1, q1, rfl, rfl, rfl, h1, r1⟩ := trodAll_cons r0
  obtain ⟨v2, vs2, d2, ds2, p2, q2, rfl, rfl, rfl, h2, r2⟩ := trodAll_cons r1
  obtain ⟨rfl, rfl, rfl⟩ := trodAll_nil r2
  obtain rfl : args = #[v0, v1, v2] := by cases args; simp_all
  obtain ⟨rfl, rfl⟩ := trodVars_none hV
  have k0 := h0
  have lt0 : ∀ x ∈ p0, x.block < W.heap.size := by obtain ⟨m, hm⟩ := k0; exact DataW.trod_lt m _ _ _ hm
  obtain ⟨a0, cap0, l0, rfl, hl0, hC0, hG0, _⟩ := Op.open_param Try.underlying32 (Op.opens_int Try.underlying5 (by kernel_rfl)) h0 (okWide_slice Try.underlying32 (hval 0 32 v0 rfl rfl))
  have k1 := h1
  have lt1 : ∀ x ∈ p1, x.block < W.heap.size := by obtain ⟨m, hm⟩ := k1; exact DataW.trod_lt m _ _ _ hm
  obtain ⟨a1, cap1, l1, rfl, hl1, hC1, hG1, _⟩ := Op.open_param Try.underlying32 (Op.opens_int Try.underlying5 (by kernel_rfl)) h1 (okWide_slice Try.underlying32 (hval 1 32 v1 rfl rfl))
  have k2 := h2
  have lt2 : ∀ x ∈ p2, x.block < W.heap.size := by obtain ⟨m, hm⟩ := k2; exact DataW.trod_lt m _ _ _ hm
  obtain ⟨a2, cap2, l2, rfl, hl2, hC2, hG2, _⟩ := Op.open_param Try.underlying75 (Tp.opensTD) h2 (okWide_slice Try.underlying75 (hval 2 75 v2 rfl rfl))
  clear hA0 hval0 hsz0
  refine (Wk.TapeAgain a0 cap0 l0 hl0 hC0 hG0 a1 cap1 l1 hl1 hC1 hG1 a2 cap2 l2 hl2 hC2 hG2).mono fun e W' ⟨he, bel⟩ => ?_
  subst he
  exact ⟨_, rfl, _, _, _, [], _, [], hW', trodAll_mk1 (shut_bool Try.underlying4 _), (trodAll_cons_mk (Below.trod laidOut (by kernel_rfl) (of_decide_eq_true (by kernel_rfl)) k0 bel lt0) (trodAll_cons_mk (Below.trod laidOut (by kernel_rfl) (of_decide_eq_true (by kernel_rfl)) k1 bel lt1) (trodAll_cons_mk (Below.trod laidOut (by kernel_rfl) (of_decide_eq_true (by kernel_rfl)) k2 bel lt2) trodAll_mk0))), rfl, bel.frame _, fun h => by cases h⟩
theorem over : Rows.tapeAgainRow.holds Try.pinned (OpenSpec.ofChange Rows.tapeAgainSpec) :=
  OpenClaim.holds_of_wide 6 Try.f6 rfl rfl rfl rfl rfl rfl rfl ⟨rfl, rfl, rfl, rfl, rfl⟩ rfl rfl rfl rfl rfl (by kernel_rfl) Try.func6 (by kernel_rfl)
    (of_decide_eq_true (by kernel_rfl)) (by unfold Func.isWrapper; first | (rw [if_pos (by decide +kernel)]; kernel_rfl) | (rw [if_neg (by decide +kernel)]; exact ⟨rfl, rfl⟩))
    (fun os started H enc _ => lifted os started H enc)
theorem proved : Rows.TapeAgainSaid := over
#print axioms proved
end Go.Proofs.Ytehjbhnlbjbhfaa.tapeAgain
namespace Go.Proofs.Ytehjbhnlbjbhfaa
theorem tapeAgain_holds : Rows.TapeAgainSaid := tapeAgain.proved
end Go.Proofs.Ytehjbhnlbjbhfaa
