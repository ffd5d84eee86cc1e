/- The statement TapeRefused is proved, for every input, without a condition; ahead of it the last contracts and plain laws that it rests on. -/
import Derived.Test.YtehjbhnlbjbhfaaBnTapeRefused5
import Derived.Lib.SmallJoins
import Derived.Laws.IdiomStrings
import Derived.Lib.Strings
import Derived.SizedLaws
import Derived.ChangeSlices
import Derived.Test.YtehjbhnlbjbhfaaRows
import Derived.WalkKit
import Derived.ProofKit
import Derived.OpenShut
import Derived.ShutString
import Derived.ChangeOld
import Derived.Below
-- TpT
namespace Go.Proofs.Ytehjbhnlbjbhfaa.Tp
open Go Go.RowKit Go.Proofs.YtehjbhnlbjbhfaaW.PrintWords Go.Proofs.YtehjbhnlbjbhfaaW.PrintLast Go.Proofs.YtehjbhnlbjbhfaaW.PrintMore Go.Proofs.Ytehjbhnlbjbhfaa.Wire Go.Proofs.Ytehjbhnlbjbhfaa.Wk Go.Proofs.Ytehjbhnlbjbhfaa.Dk
set_option linter.unusedVariables false
structure Calm (s : DS) : Prop where
  room : s.room ≠ 0
  on : s.off = false
  set : s.set = false
  len : s.fs.length = 8
theorem Calm.setF {s : DS} (h : Calm s) (i : Nat) (f : Fl) : Calm (setF s i f) := ⟨h.room, h.on, h.set, by show (s.fs.set i f).length = 8; rw [List.length_set]; exact h.len⟩
theorem calm_act {s : DS} (h : Calm s) (n : Nat) (done : DS → Nat → DS) : actP s n done = (done s n, 0) := by
  unfold actP struckP burnS burnN
  rw [h.set]
  simp
theorem calm_append {s : DS} (h : Calm s) {j : Nat} (hj : j < 8) (b : List Int) : appendP s (j : Int) b = if s.room < (usedP s : Int) + (b.length : Int) then (s, 7) else (setF s j ⟨(fl s j).seen ++ b, (fl s j).lasts, (fl s j).cl⟩, 0) := by
  unfold appendP
  rw [if_neg (fun e => e (able_on hj h.room h.on)), calm_act h, Int.toNat_natCast]
  unfold doneA
  rw [List.take_length]
theorem calm_clear {s : DS} (h : Calm s) {j : Nat} (hj : j < 8) : clearP s (j : Int) = (setF s j ⟨[], (fl s j).lasts, true⟩, 0) := by
  unfold clearP
  rw [if_neg (fun e => e (able_on hj h.room h.on)), calm_act h, Int.toNat_natCast]
  unfold doneC
  rw [if_pos rfl]
theorem calm_sync {s : DS} (h : Calm s) {j : Nat} (hj : j < 8) : syncP s (j : Int) = (setF s j ⟨(fl s j).seen, (fl s j).seen, false⟩, 0) := by
  unfold syncP
  rw [if_neg (fun e => e (able_on hj h.room h.on)), calm_act h, Int.toNat_natCast]
  unfold doneY
  rw [if_pos rfl]
structure Wrote (r : Reel) (b : List Int) : Prop where
  gen : 1 ≤ r.gen ∧ r.gen ≤ 1099511627776
  base : r.base.length ≤ 8176
  bb : Bs r.base
  bl : ∀ d ∈ r.l, Bs d ∧ d.length ≤ 8192
  ex : ∃ many : Nat, many ≤ r.l.length ∧ many ≤ 1099511627776 ∧ (headB r.gen many r.base).length ≤ 8192 ∧ b = (headB r.gen many r.base :: r.l).flatMap sealP
structure TOk (t : TS) (s : DS) : Prop where
  calm : Calm s
  file : t.file ≤ 1
  wrote : Wrote t.r (fl s t.file).seen
  other : (readT (fl s (1 - t.file)).seen).1.gen < t.r.gen
theorem headB_bs {gen many : Int} {base : List Int} (hg : 0 ≤ gen ∧ gen < 18446744073709551616) (hm : 0 ≤ many ∧ many < 18446744073709551616) (hb : Bs base) (hl : base.length < 18446744073709551616) : Bs (headB gen many base) := by
  refine (encs_bs ?_).app (rec_bs hb hl)
  intro x hx
  rcases List.mem_cons.1 hx with rfl | hx
  · exact hg
  · rcases List.mem_cons.1 hx with rfl | hx
    · exact hm
    · cases hx
theorem flat_bs {ls : List (List Int)} (h : ∀ d ∈ ls, Bs d ∧ d.length ≤ 8192) : Bs (ls.flatMap sealP) := by
  intro x hx
  obtain ⟨d, hd, hx⟩ := List.mem_flatMap.1 hx
  exact seal_bs (h d hd).1 (by have := (h d hd).2; omega) x hx
theorem Wrote.recs {r : Reel} {b : List Int} (h : Wrote r b) {many : Nat} (h2 : many ≤ 1099511627776) (h3 : (headB r.gen many r.base).length ≤ 8192) : ∀ d ∈ headB r.gen many r.base :: r.l, Bs d ∧ d.length ≤ 8192 := by
  intro d hd
  rcases List.mem_cons.1 hd with rfl | hd
  · exact ⟨headB_bs (by have := h.gen; omega) (by omega) h.bb (by have := h.base; omega), h3⟩
  · exact h.bl d hd
theorem Wrote.bs {r : Reel} {b : List Int} (h : Wrote r b) : Bs b := by
  obtain ⟨many, h1, h2, h3, rfl⟩ := h.ex
  exact flat_bs (h.recs h2 h3)
theorem Wrote.read {r : Reel} {b : List Int} (h : Wrote r b) : readT b = (r, false) := by
  have hbs := h.bs
  obtain ⟨many, h1, h2, h3, rfl⟩ := h.ex
  have := readT_recs (gen := r.gen) (many := many) (base := r.base) (l := r.l) (rest := []) (by rw [List.append_nil]; exact hbs) h3 (fun d hd => (h.bl d hd).2) open_nil h.gen (by omega) h.base
  rw [List.append_nil, if_neg (by omega)] at this
  rw [this]
  simp
theorem Wrote.len {r : Reel} {b : List Int} (h : Wrote r b) : (r.l.flatMap sealP).length ≤ b.length := by
  obtain ⟨many, _, _, _, rfl⟩ := h.ex
  rw [List.flatMap_cons, List.length_append]; omega
theorem Wrote.put {r : Reel} {b : List Int} (h : Wrote r b) {d : List Int} (hd : Bs d ∧ d.length ≤ 8192) : Wrote ⟨r.gen, r.base, r.l ++ [d]⟩ (b ++ sealP d) := by
  obtain ⟨many, h1, h2, h3, h4⟩ := h.ex
  refine ⟨h.gen, h.base, h.bb, fun x hx => ?_, many, by show many ≤ (r.l ++ [d]).length; rw [List.length_append]; omega, h2, h3, ?_⟩
  · rcases List.mem_append.1 hx with hx | hx
    · exact h.bl x hx
    · rw [List.mem_singleton.1 hx]; exact hd
  · rw [h4]
    simp [List.append_assoc]
theorem tooLong_not {l : List (List Int)} (h : ¬ tooLong l = true) : ∀ d ∈ l, d.length ≤ 8192 := by
  intro d hd
  by_cases c : d.length ≤ 8192
  · exact c
  · refine absurd ?_ h
    unfold tooLong
    rw [List.any_eq_true]
    exact ⟨d, hd, by simpa using c⟩
theorem picked_of {s : DS} {r : Reel} {f : Nat} (hf : f ≤ 1) (h1 : readT (fl s f).seen = (r, false)) (h2 : (readT (fl s (1 - f)).seen).1.gen < r.gen) (h0 : 0 < r.gen) : (picked s).1.r = r ∧ (picked s).1.file = f ∧ (picked s).2 = false := by
  have h3 : f = 0 ∨ f = 1 := by omega
  unfold picked pick
  rcases h3 with rfl | rfl
  · simp only [Nat.sub_zero] at h2
    simp only
    rw [h1]
    rw [if_pos (show noReel.gen < _ from h0)]
    simp only
    rw [if_neg (by omega)]
    exact ⟨rfl, rfl, rfl⟩
  · simp only [Nat.sub_self] at h2
    simp only
    by_cases c : noReel.gen < (readT (fl s 0).seen).1.gen
    · rw [if_pos c, h1]
      simp only
      rw [if_pos h2]
      exact ⟨rfl, rfl, rfl⟩
    · rw [if_neg c, h1]
      simp only
      rw [if_pos (show noReel.gen < _ from h0)]
      exact ⟨rfl, rfl, rfl⟩
theorem TOk.opens {t : TS} {s : DS} (h : TOk t s) : openT s = (some ⟨t.r, t.file, t.r.l.length⟩, s, 0) := by
  obtain ⟨p1, p2, p3⟩ := picked_of h.file h.wrote.read h.other (by have := h.wrote.gen; omega)
  unfold openT
  rw [if_neg (fun e => e (able_on (j := 0) (by decide) h.calm.room h.calm.on))]
  simp only
  rw [p1, p2, p3, if_neg (fun e => e.elim (fun e => by have := h.wrote.gen; omega) (fun e => by cases e))]
theorem TOk.put {t : TS} {s : DS} (h : TOk t s) {d : List Int} (hd : Bs d) : TOk (putP t s d).1 (putP t s d).2.1 ∧ ((putP t s d).2.2 ≠ 0 → putP t s d = (t, s, (putP t s d).2.2)) := by
  unfold putP
  by_cases c : 8192 < d.length
  · rw [if_pos c]; exact ⟨h, fun _ => rfl⟩
  · rw [if_neg c, calm_append h.calm (show t.file < 8 by have := h.file; omega)]
    by_cases c2 : s.room < (usedP s : Int) + ((sealP d).length : Int)
    · rw [if_pos c2]; exact ⟨h, fun _ => rfl⟩
    · rw [if_neg c2]
      simp only
      rw [if_neg (fun e => e rfl)]
      have hlt : t.file < 8 := by have := h.file; omega
      refine ⟨⟨h.calm.setF _ _, h.file, ?_, ?_⟩, fun e => absurd rfl e⟩
      · show Wrote _ (fl (setF s t.file _) t.file).seen
        rw [fl_setF s h.calm.len hlt, if_pos rfl]
        exact h.wrote.put ⟨hd, by omega⟩
      · show (readT (fl (setF s t.file _) (1 - t.file)).seen).1.gen < _
        rw [fl_setF s h.calm.len hlt, if_neg (by have := h.file; omega)]
        exact h.other
theorem TOk.sync {t : TS} {s : DS} (h : TOk t s) : TOk (syncT t s).1 (syncT t s).2.1 ∧ (syncT t s).1.r = t.r := by
  have hlt : t.file < 8 := by have := h.file; omega
  unfold syncT
  rw [calm_sync h.calm hlt]
  simp only
  rw [if_neg (fun e => e rfl)]
  refine ⟨⟨h.calm.setF _ _, h.file, ?_, ?_⟩, rfl⟩
  · show Wrote _ (fl (setF s t.file _) t.file).seen
    rw [fl_setF s h.calm.len hlt, if_pos rfl]
    exact h.wrote
  · show (readT (fl (setF s t.file _) (1 - t.file)).seen).1.gen < _
    rw [fl_setF s h.calm.len hlt, if_neg (by have := h.file; omega)]
    exact h.other
theorem headE_err {gen many : Int} {base : List Int} (h : (headE gen many base).2 ≠ 0) : (headE gen many base).2 = 4 := by
  unfold headE sealE at *
  split at h
  · rename_i c; rw [if_pos c]
  · exact absurd rfl h
theorem save_calm {t : TS} {s : DS} (hc : Calm s) (hf : t.file ≤ 1) (hg : 0 ≤ t.r.gen) (hr : (readT (fl s t.file).seen).1.gen ≤ t.r.gen) {base : List Int} {l : List (List Int)} (hb : Bs base) (hl : ∀ d ∈ l, Bs d) (hn : l.length ≤ 1099511627776) :
    ((saveP t s base l).2.2 = 0 ∧ (saveP t s base l).1 = ⟨⟨t.r.gen + 1, base, l⟩, 1 - t.file, l.length⟩ ∧ TOk (saveP t s base l).1 (saveP t s base l).2.1) ∨
    ((saveP t s base l).2.2 ≠ 0 ∧ (saveP t s base l).1 = t ∧ (((saveP t s base l).2.1 = s ∧ ((saveP t s base l).2.2 = 5 ∨ (saveP t s base l).2.2 = 4)) ∨ (saveP t s base l).2.1 = setF s (1 - t.file) ⟨[], (fl s (1 - t.file)).lasts, true⟩ ∧ (saveP t s base l).2.2 = 7 ∧ s.room < (usedP (setF s (1 - t.file) ⟨[], (fl s (1 - t.file)).lasts, true⟩) : Int) + (((headE (t.r.gen + 1) (l.length : Int) base).1 ++ l.flatMap sealP).length : Int))) := by
  unfold saveP
  by_cases c1 : 1099511627776 ≤ t.r.gen
  · rw [if_pos c1]; exact .inr ⟨(show (5 : Int) ≠ 0 by decide), rfl, .inl ⟨rfl, .inl rfl⟩⟩
  · rw [if_neg c1]
    by_cases c2 : 8176 < base.length
    · rw [if_pos c2]; exact .inr ⟨(show (4 : Int) ≠ 0 by decide), rfl, .inl ⟨rfl, .inr rfl⟩⟩
    · rw [if_neg c2]
      by_cases c3 : (headE (t.r.gen + 1) (l.length : Int) base).2 ≠ 0
      · rw [if_pos c3]; exact .inr ⟨c3, rfl, .inl ⟨rfl, .inr (headE_err c3)⟩⟩
      · rw [if_neg c3]
        by_cases c4 : tooLong l = true
        · rw [if_pos c4]; exact .inr ⟨(show (4 : Int) ≠ 0 by decide), rfl, .inl ⟨rfl, .inr rfl⟩⟩
        · rw [if_neg c4]
          obtain ⟨q1, q2⟩ := headE_zero (Decidable.of_not_not c3)
          have hlt : 1 - t.file < 8 := by omega
          have hcs : ((1 : Int) - (t.file : Int)) = ((1 - t.file : Nat) : Int) := by omega
          have hc1 : Calm (setF s (1 - t.file) ⟨[], (fl s (1 - t.file)).lasts, true⟩) := hc.setF _ _
          unfold saveW
          simp only
          rw [hcs, calm_clear hc hlt]
          simp only
          rw [if_neg (fun e => e rfl), calm_append hc1 hlt]
          by_cases c5 : (setF s (1 - t.file) ⟨[], (fl s (1 - t.file)).lasts, true⟩).room < (usedP (setF s (1 - t.file) ⟨[], (fl s (1 - t.file)).lasts, true⟩) : Int) + (((headE (t.r.gen + 1) (l.length : Int) base).1 ++ l.flatMap sealP).length : Int)
          · rw [if_pos c5]
            simp only
            rw [if_pos (show (7 : Int) ≠ 0 by decide)]
            exact .inr ⟨(show (7 : Int) ≠ 0 by decide), rfl, .inr ⟨rfl, rfl, c5⟩⟩
          · rw [if_neg c5]
            simp only
            rw [if_neg (fun e => e rfl), calm_sync (hc1.setF _ _) hlt]
            simp only
            rw [if_neg (fun e => e rfl)]
            refine .inl ⟨rfl, rfl, (hc1.setF _ _).setF _ _, by show 1 - t.file ≤ 1; omega, ?_, ?_⟩
            · show Wrote _ (fl (setF (setF (setF s (1 - t.file) _) (1 - t.file) _) (1 - t.file) _) (1 - t.file)).seen
              rw [fl_setF _ (hc1.setF _ _).len hlt, if_pos rfl]
              show Wrote _ (fl (setF (setF s (1 - t.file) _) (1 - t.file) _) (1 - t.file)).seen
              rw [fl_setF _ hc1.len hlt, if_pos rfl]
              show Wrote _ ((fl (setF s (1 - t.file) _) (1 - t.file)).seen ++ _)
              rw [fl_setF _ hc.len hlt, if_pos rfl]
              refine ⟨⟨by show 1 ≤ t.r.gen + 1; omega, by show t.r.gen + 1 ≤ _; omega⟩, by show base.length ≤ _; omega, hb, fun d hd => ⟨hl d hd, tooLong_not c4 d hd⟩, l.length, Nat.le_refl _, hn, q1, ?_⟩
              rw [q2, List.flatMap_cons]
              simp
            · show (readT (fl (setF (setF (setF s (1 - t.file) _) (1 - t.file) _) (1 - t.file) _) (1 - (1 - t.file))).seen).1.gen < t.r.gen + 1
              have hne : 1 - t.file ≠ 1 - (1 - t.file) := by omega
              rw [fl_setF _ (hc1.setF _ _).len hlt, if_neg hne, fl_setF _ hc1.len hlt, if_neg hne, fl_setF _ hc.len hlt, if_neg hne, show 1 - (1 - t.file) = t.file by omega]
              omega
theorem TOk.save {t : TS} {s : DS} (h : TOk t s) {base : List Int} {l : List (List Int)} (hb : Bs base) (hl : ∀ d ∈ l, Bs d) (hn : l.length ≤ 1099511627776) :
    TOk (saveP t s base l).1 (saveP t s base l).2.1 ∧ ((saveP t s base l).2.2 ≠ 0 → (saveP t s base l).1 = t) := by
  have hg := h.wrote.gen
  rcases save_calm h.calm h.file (by omega) (by rw [h.wrote.read]; exact Int.le_refl _) hb hl hn with ⟨h1, _, h3⟩ | ⟨h1, h2, h3⟩
  · exact ⟨h3, fun e => absurd h1 e⟩
  · refine ⟨?_, fun _ => h2⟩
    rw [h2]
    rcases h3 with ⟨h3, _⟩ | ⟨h3, _⟩
    · rw [h3]; exact h
    · rw [h3]
      have hlt : 1 - t.file < 8 := by omega
      have hf := h.file
      refine ⟨h.calm.setF _ _, h.file, ?_, ?_⟩
      · rw [fl_setF _ h.calm.len hlt, if_neg (by omega)]; exact h.wrote
      · rw [fl_setF _ h.calm.len hlt, if_pos rfl]
        show (readT []).1.gen < _
        rw [readT_nil]
        show (0 : Int) < _
        omega
end Go.Proofs.Ytehjbhnlbjbhfaa.Tp
-- TpU
namespace Go.Proofs.Ytehjbhnlbjbhfaa.Tp
open Go Go.RowKit Go.Proofs.YtehjbhnlbjbhfaaW.PrintWords Go.Proofs.YtehjbhnlbjbhfaaW.PrintLast Go.Proofs.YtehjbhnlbjbhfaaW.PrintMore Go.Proofs.Ytehjbhnlbjbhfaa.Wire Go.Proofs.Ytehjbhnlbjbhfaa.Wk Go.Proofs.Ytehjbhnlbjbhfaa.Dk
open Go.Proofs.Ytehjbhnlbjbhfaa.PTapePlays
set_option linter.unusedVariables false
set_option linter.unusedSimpArgs false
abbrev TD := S79
structure TSmall (x : TD) : Prop where
  b : x.f2.length ≤ 16384
  keep : x.f4.length ≤ 16384
  many : 4 * x.f3.length ≤ 16384
  l : ∀ d ∈ x.f3, d.length ≤ 16384
theorem mnn (a : Nat) : 0 ≤ mn (a : Int) 16385 ∧ mn (a : Int) 16385 ≤ 16385 ∧ (mn (a : Int) 16385 ≤ 16384 → a ≤ 16384) := by
  unfold mn
  split <;> omega
theorem inner2 (x6 : List TD) (x7 : Nat) (acts : Int) (x9 : List (List TD)) (x10 x11 : Int) (h7 : x7 < x6.length) (hm : x6.length ≤ 9223372036854775807) (hl : (rd_T79 x6 (x7 : Int)).f3.length ≤ 9223372036854775807) : ∀ (d j : Nat) (n : Int), j + d = (rd_T79 x6 (x7 : Int)).f3.length → 0 ≤ n → n ≤ 49154 →
    ∃ n' : Int, n ≤ n' ∧ n' ≤ 49154 ∧ (n' ≤ 16384 → n + 4 * (d : Int) ≤ n' ∧ ∀ q : Nat, j ≤ q → q < (rd_T79 x6 (x7 : Int)).f3.length → (rd_L1 (rd_T79 x6 (x7 : Int)).f3 (q : Int)).length ≤ 16384) ∧
      ∀ k r, towlinelaw06_short.l1 k n' acts x6 ((x7 + 1 : Nat) : Int) x9 x10 x11 = some r → ∃ k', towlinelaw06_short.l2 k' n acts x6 (x7 : Int) (j : Int) x9 x10 x11 = some r := by
  have ew : wrap64 ((x7 : Int) + 1) = ((x7 + 1 : Nat) : Int) := by unfold wrap64; omega
  intro d
  induction d with
  | zero =>
    intro j n hj h1 h2
    refine ⟨n, Int.le_refl _, h2, fun _ => ⟨by omega, fun q hq hq2 => by omega⟩, fun k r h => ⟨k + 1, ?_⟩⟩
    simp only [towlinelaw06_short.l2]
    rw [if_pos (by omega), if_pos (by omega), if_neg (by omega), ew]
    exact h
  | succ d ih =>
    intro j n hj h1 h2
    by_cases cn : n ≤ 16384
    · obtain ⟨p1, p2, p3⟩ := mnn (rd_L1 (rd_T79 x6 (x7 : Int)).f3 (j : Int)).length
      have e1 : wrap64 (n + (4 + mn ((rd_L1 (rd_T79 x6 (x7 : Int)).f3 (j : Int)).length : Int) 16385)) = n + (4 + mn ((rd_L1 (rd_T79 x6 (x7 : Int)).f3 (j : Int)).length : Int) 16385) := by unfold wrap64; omega
      have e3 : wrap64 ((j : Int) + 1) = ((j + 1 : Nat) : Int) := by unfold wrap64; omega
      obtain ⟨n', a1, a2, a3, a4⟩ := ih (j + 1) (n + (4 + mn ((rd_L1 (rd_T79 x6 (x7 : Int)).f3 (j : Int)).length : Int) 16385)) (by omega) (by omega) (by omega)
      refine ⟨n', by omega, a2, fun b => ⟨by have := (a3 b).1; omega, fun q hq hq2 => ?_⟩, fun k r h => ?_⟩
      · by_cases e : q = j
        · subst e; exact p3 (by omega)
        · exact (a3 b).2 q (by omega) hq2
      · obtain ⟨k', hk⟩ := a4 k r h
        refine ⟨k' + 1, ?_⟩
        simp only [towlinelaw06_short.l2]
        rw [if_pos (by omega), if_pos (by omega), if_pos (by omega), if_pos cn, if_pos (by omega), e1, e3]
        exact hk
    · refine ⟨n, Int.le_refl _, h2, fun b => absurd b cn, fun k r h => ⟨k + 1, ?_⟩⟩
      simp only [towlinelaw06_short.l2]
      rw [if_pos (by omega), if_pos (by omega), if_pos (by omega), if_neg cn, ew]
      exact h
theorem inner1 (x9 : List (List TD)) (x10 x11 : Int) (l : List TD) (hl : l.length ≤ 9223372036854775807) (hl3 : ∀ x ∈ l, x.f3.length ≤ 9223372036854775807) : ∀ (d i : Nat) (n acts : Int), i + d = l.length → 0 ≤ n → n ≤ 49154 → 0 ≤ acts → acts ≤ 61 →
    ∃ n' acts' : Int, n ≤ n' ∧ n' ≤ 49154 ∧ acts ≤ acts' ∧ acts' ≤ 61 ∧ (n' ≤ 16384 → acts' ≤ 60 → acts + (d : Int) ≤ acts' ∧ ∀ j, i ≤ j → j < l.length → TSmall (rd_T79 l (j : Int))) ∧
      ∀ k r, towlinelaw06_short.l0 k n' acts' x9 x10 (wrap64 (x11 + 1)) = some r → ∃ k', towlinelaw06_short.l1 k' n acts l (i : Int) x9 x10 x11 = some r := by
  intro d
  induction d with
  | zero =>
    intro i n acts hi h1 h2 h3 h4
    refine ⟨n, acts, Int.le_refl _, h2, Int.le_refl _, h4, fun _ _ => ⟨by omega, fun j hj hj2 => by omega⟩, fun k r h => ⟨k + 1 + 1, ?_⟩⟩
    simp only [towlinelaw06_short.l1]
    rw [if_neg (by omega)]
    simp only [towlinelaw06_short.j2]
    rw [if_neg (by decide)]
    exact h
  | succ d ih =>
    intro i n acts hi h1 h2 h3 h4
    by_cases ca : acts ≤ 60
    · by_cases cn : n ≤ 16384
      · obtain ⟨p1, p2, p3⟩ := mnn (rd_T79 l (i : Int)).f2.length
        obtain ⟨q1, q2, q3⟩ := mnn (rd_T79 l (i : Int)).f4.length
        have e1 : wrap64 (n + (mn ((rd_T79 l (i : Int)).f2.length : Int) 16385 + mn ((rd_T79 l (i : Int)).f4.length : Int) 16385)) = n + (mn ((rd_T79 l (i : Int)).f2.length : Int) 16385 + mn ((rd_T79 l (i : Int)).f4.length : Int) 16385) := by unfold wrap64; omega
        have e2 : wrap64 (acts + 1) = acts + 1 := by unfold wrap64; omega
        have hmem : rd_T79 l (i : Int) ∈ l := by
          unfold rd_T79
          rw [Int.toNat_natCast, List.getD_eq_getElem?_getD, List.getElem?_eq_getElem (by omega)]
          exact List.getElem_mem _
        obtain ⟨n2, b1, b2, b3, b4⟩ := inner2 l i (acts + 1) x9 x10 x11 (by omega) hl (hl3 _ hmem) (rd_T79 l (i : Int)).f3.length 0 (n + (mn ((rd_T79 l (i : Int)).f2.length : Int) 16385 + mn ((rd_T79 l (i : Int)).f4.length : Int) 16385)) (by omega) (by omega) (by omega)
        obtain ⟨n', acts', a1, a2, a3, a4, a5, a6⟩ := ih (i + 1) n2 (acts + 1) (by omega) (by omega) b2 (by omega) (by omega)
        refine ⟨n', acts', by omega, a2, by omega, a4, fun c1 c2 => ⟨by have := (a5 c1 c2).1; omega, fun j hj hj2 => ?_⟩, fun k r h => ?_⟩
        · by_cases e : j = i
          · subst e
            obtain ⟨d1, d2⟩ := b3 (by omega)
            refine ⟨p3 (by omega), q3 (by omega), by omega, fun x hx => ?_⟩
            obtain ⟨q, hq, eq⟩ := List.mem_iff_getElem.1 hx
            have := d2 q (Nat.zero_le _) hq
            unfold rd_L1 at this
            rw [Int.toNat_natCast, List.getD_eq_getElem?_getD, List.getElem?_eq_getElem hq] at this
            rw [← eq]; exact this
          · exact (a5 c1 c2).2 j (by omega) hj2
        · obtain ⟨k', hk⟩ := a6 k r h
          obtain ⟨k2, hk2⟩ := b4 k' r hk
          refine ⟨k2 + 1 + 1, ?_⟩
          simp only [towlinelaw06_short.l1]
          rw [if_pos (by omega), if_pos ca, decide_eq_true cn]
          simp only [towlinelaw06_short.j2]
          rw [if_pos trivial, if_pos (by omega), if_pos (by omega), e1, e2]
          exact hk2
      · refine ⟨n, acts, Int.le_refl _, h2, Int.le_refl _, h4, fun b _ => absurd b cn, fun k r h => ⟨k + 1 + 1, ?_⟩⟩
        simp only [towlinelaw06_short.l1]
        rw [if_pos (by omega), if_pos ca, decide_eq_false cn]
        simp only [towlinelaw06_short.j2]
        rw [if_neg (by decide)]
        exact h
    · refine ⟨n, acts, Int.le_refl _, h2, Int.le_refl _, h4, fun _ b => absurd b ca, fun k r h => ⟨k + 1 + 1, ?_⟩⟩
      simp only [towlinelaw06_short.l1]
      rw [if_pos (by omega), if_neg ca]
      simp only [towlinelaw06_short.j2]
      rw [if_neg (by decide)]
      exact h
theorem outer1 (ls : List (List TD)) (hl : ls.length ≤ 9223372036854775807) (hl2 : ∀ l ∈ ls, l.length ≤ 9223372036854775807 ∧ ∀ x ∈ l, x.f3.length ≤ 9223372036854775807) : ∀ (d i : Nat) (n acts : Int), i + d = ls.length → 0 ≤ n → n ≤ 49154 → 0 ≤ acts → acts ≤ 61 →
    ∃ k r, towlinelaw06_short.l0 k n acts ls (ls.length : Int) (i : Int) = some r ∧ (r = true → n ≤ 16384 ∧ acts ≤ 60 ∧ ∀ j, i ≤ j → j < ls.length → (rd_L8 ls (j : Int)).length ≤ 60 ∧ ∀ m, m < (rd_L8 ls (j : Int)).length → TSmall (rd_T79 (rd_L8 ls (j : Int)) (m : Int))) := by
  intro d
  induction d with
  | zero =>
    intro i n acts hi h1 h2 h3 h4
    by_cases ca : acts ≤ 60
    · refine ⟨1, decide (n ≤ 16384), ?_, fun e => ⟨of_decide_eq_true e, ca, fun j hj hj2 => by omega⟩⟩
      simp only [towlinelaw06_short.l0]
      rw [if_neg (by omega), if_pos ca]
    · refine ⟨1, false, ?_, fun e => by cases e⟩
      simp only [towlinelaw06_short.l0]
      rw [if_neg (by omega), if_neg ca]
  | succ d ih =>
    intro i n acts hi h1 h2 h3 h4
    have hm : rd_L8 ls (i : Int) ∈ ls := by
      unfold rd_L8
      rw [Int.toNat_natCast, List.getD_eq_getElem?_getD, List.getElem?_eq_getElem (by omega)]
      exact List.getElem_mem _
    obtain ⟨n', acts', a1, a2, a3, a4, a5, a6⟩ := inner1 ls (ls.length : Int) (i : Int) (rd_L8 ls (i : Int)) (hl2 _ hm).1 (hl2 _ hm).2 (rd_L8 ls (i : Int)).length 0 n acts (Nat.zero_add _) h1 h2 h3 h4
    have e3 : wrap64 ((i : Int) + 1) = ((i + 1 : Nat) : Int) := by unfold wrap64; omega
    rw [e3] at a6
    obtain ⟨k, r, b1, b2⟩ := ih (i + 1) n' acts' (by omega) (by omega) a2 (by omega) a4
    obtain ⟨k', hk⟩ := a6 k r b1
    refine ⟨k' + 1, r, ?_, fun e => ?_⟩
    · simp only [towlinelaw06_short.l0]
      rw [if_pos (by omega), if_pos (by omega), if_pos (by omega)]
      exact hk
    · obtain ⟨c1, c2, c3⟩ := b2 e
      obtain ⟨d1, d2⟩ := a5 c1 c2
      refine ⟨by omega, by omega, fun j hj hj2 => ?_⟩
      by_cases e : j = i
      · subst e; exact ⟨by omega, fun m hm2 => d2 m (Nat.zero_le _) hm2⟩
      · exact c3 j (by omega) hj2
theorem tshort_says (ls : List (List TD)) (hl : ls.length ≤ 9223372036854775807) (hl2 : ∀ l ∈ ls, l.length ≤ 9223372036854775807 ∧ ∀ x ∈ l, x.f3.length ≤ 9223372036854775807) :
    ∃ k r, towlinelaw06_short.f k ls = some r ∧ (r = true → ∀ l ∈ ls, l.length ≤ 60 ∧ ∀ x ∈ l, TSmall x) := by
  obtain ⟨k, r, h1, h2⟩ := outer1 ls hl hl2 ls.length 0 0 0 (by omega) (by omega) (by omega) (by omega) (by omega)
  refine ⟨k, r, h1, fun e => ?_⟩
  obtain ⟨_, _, h3⟩ := h2 e
  intro l hl
  obtain ⟨j, hj, ej⟩ := List.mem_iff_getElem.1 hl
  have e1 : rd_L8 ls (j : Int) = l := by
    unfold rd_L8
    rw [Int.toNat_natCast, List.getD_eq_getElem?_getD, List.getElem?_eq_getElem hj, ← ej]; rfl
  have h4 := h3 j (Nat.zero_le _) hj
  rw [e1] at h4
  refine ⟨h4.1, fun x hx => ?_⟩
  obtain ⟨m, hm, em⟩ := List.mem_iff_getElem.1 hx
  have e2 : rd_T79 l (m : Int) = x := by
    unfold rd_T79
    rw [Int.toNat_natCast, List.getD_eq_getElem?_getD, List.getElem?_eq_getElem hm, ← em]; rfl
  rw [← e2]; exact h4.2 m hm
theorem tlists_C {W : World} {g : Nat} {t : TypeId} {fr : Nat × Nat} {cs : List Value} {ls : List (List TD)} (hg : W.heap[g]? = some (.cells cs.toArray t fr)) (hm : ls.length ≤ 9223372036854775807)
    (h : ∀ (j : Nat) (l : List TD), ls[j]? = some l → ∃ A c, cs[j]? = some (Value.slice A l.length c) ∧ l.length ≤ c ∧ k79.C W A l.length l) : Kd.C (Kd.slice 79 k79) W (some ⟨g, 0, none⟩) ls.length ls := by
  refine ⟨rfl, hm, fun _ => ⟨_, rfl, fun j l hj => ?_⟩⟩
  obtain ⟨A, c, h1, h2, h3⟩ := h j l hj
  refine ⟨[Value.slice A l.length c], rfl, ⟨A, c, rfl, h2, h3⟩, fun i u hi => ?_⟩
  have hi0 : i = 0 := by
    have := (List.getElem?_eq_some_iff.1 hi).1
    simp at this; exact this
  subst hi0
  injection hi with hi
  subst hi
  have ha : (⟨g, 0, none⟩ : Addr).add (j * (Kd.slice 79 k79).sz + 0) = ⟨g, j, none⟩ := by
    rw [add_at, show (Kd.slice 79 k79).sz = 1 from rfl]; simp
  rw [ha, cell_of_row W g j _ t fr hg, List.getElem?_toArray, h1]
theorem td_max {w : World} {A : Option Addr} {l : List TD} (h : k79.C w A l.length l) : l.length ≤ 9223372036854775807 ∧ ∀ x ∈ l, x.f3.length ≤ 9223372036854775807 := by
  refine ⟨Kd.C_max h, fun x hx => ?_⟩
  obtain ⟨m, hm, em⟩ := List.mem_iff_getElem.1 hx
  obtain ⟨ad, A2, c2, A3, c3, A4, c4, _, _, _, _, _, _, _, _, _, h3, _⟩ := at_T79 h (m : Int) (by omega) (by omega)
  have e2 : rd_T79 l (m : Int) = x := by
    unfold rd_T79
    rw [Int.toNat_natCast, List.getD_eq_getElem?_getD, List.getElem?_eq_getElem hm, ← em]; rfl
  rw [e2] at h3
  exact Kd.C_max h3
def wfT (n : Int) : Prop := (Lit.int .i64 n).wf = true
def GTD (x : TD) : Prop := wfT x.f0 ∧ wfT x.f1 ∧ (∀ y ∈ x.f2, (Lit.int .u8 y).wf = true) ∧ (∀ d ∈ x.f3, ∀ y ∈ d, (Lit.int .u8 y).wf = true) ∧ (∀ y ∈ x.f4, wfT y)
theorem opensTD {H : Type} {enc : TypeId × Value → H} {W : World} : Op.Opens enc Try.prog W k79 GTD 79 :=
  Op.opens_iso (Op.opens_struct (d := Kd.pair (Kd.int .i64) (Kd.pair (Kd.int .i64) (Kd.pair (Kd.slice 5 (Kd.int .u8)) (Kd.pair (Kd.slice 32 (Kd.slice 5 (Kd.int .u8))) (Kd.slice 3 (Kd.int .i64)))))) Try.underlying79 (by kernel_rfl)
    (Op.fields_cons rfl (Op.opens_int Try.underlying3 (by kernel_rfl)) (Op.fields_cons rfl (Op.opens_int Try.underlying3 (by kernel_rfl)) (Op.fields_cons rfl (Op.opens_slice Try.underlying32 (by kernel_rfl) (Op.opens_int Try.underlying5 (by kernel_rfl))) (Op.fields_cons rfl (Op.opens_slice Try.underlying46 (by kernel_rfl) (Op.opens_slice Try.underlying32 (by kernel_rfl) (Op.opens_int Try.underlying5 (by kernel_rfl)))) (Op.fields_one rfl (Op.opens_slice Try.underlying33 (by kernel_rfl) (Op.opens_int Try.underlying3 (by kernel_rfl)))))))))
    (fun x : TD => (x.f0, x.f1, x.f2, x.f3, x.f4)) (fun p => ⟨p.1, p.2.1, p.2.2.1, p.2.2.2.1, p.2.2.2.2⟩) (fun _ => rfl)
theorem bs_wf {l : List Int} (h : ∀ y ∈ l, (Lit.int .u8 y).wf = true) : Bs l := fun x hx => wf_u8 (h x hx)
end Go.Proofs.Ytehjbhnlbjbhfaa.Tp
-- TpP
namespace Go.Proofs.Ytehjbhnlbjbhfaa.Tp
open Go Go.RowKit Go.Proofs.YtehjbhnlbjbhfaaW.PrintWords Go.Proofs.YtehjbhnlbjbhfaaW.PrintLast Go.Proofs.YtehjbhnlbjbhfaaW.PrintMore Go.Proofs.Ytehjbhnlbjbhfaa.Wire Go.Proofs.Ytehjbhnlbjbhfaa.Wk Go.Proofs.Ytehjbhnlbjbhfaa.Dk
set_option linter.unusedVariables false
set_option linter.unusedSimpArgs false
def ax1 : TS := (putP bx bs0 [97]).1
def as1 : DS := (putP bx bs0 [97]).2.1
def ax2 : TS := (syncT ax1 as1).1
def as2 : DS := (syncT ax1 as1).2.1
def ax3 : TS := (putP ax2 as2 [98]).1
def as3 : DS := (putP ax2 as2 [98]).2.1
def as4 : DS := (crashP as3 []).1
def as5 : DS := (startP as4).1
def ax6 : TS := ((openT as5).1).getD bx
def as6 : DS := (openT as5).2.1
def ax7 : TS := (saveP ax6 as6 [120] []).1
def as7 : DS := (saveP ax6 as6 [120] []).2.1
theorem ta1 : putP bx bs0 [97] = (ax1, as1, 0) := by kernel_rfl
theorem ta2 : syncT ax1 as1 = (ax2, as2, 0) := by kernel_rfl
theorem ta3 : putP ax2 as2 [98] = (ax3, as3, 0) := by kernel_rfl
theorem tk3 : ax3.kept = 1 := by kernel_rfl
theorem ta4 : crashP as3 [] = (as4, 0) := by kernel_rfl
theorem ta5 : startP as4 = (as5, 0) := by kernel_rfl
theorem ta6 : openT as5 = (some ax6, as6, 0) := by kernel_rfl
theorem tl6 : ax6.r.l = [[97]] := by kernel_rfl
theorem tg6 : (0 ≤ ax6.r.gen ∧ ax6.r.gen < 9223372036854775807) ∧ ax6.file ≤ 1 := by
  have h1 : ax6.r.gen = 1 := by kernel_rfl
  have h2 : ax6.file = 0 := by kernel_rfl
  rw [h1, h2]; decide
theorem ta7 : saveP ax6 as6 [120] [] = (ax7, as7, 0) := by kernel_rfl
theorem tb7 : ax7.r.base = [120] ∧ ax7.r.l = [] := ⟨by kernel_rfl, by kernel_rfl⟩
theorem tl3 : bx.r.l.length = 0 ∧ ax2.r.l.length = 1 := ⟨by kernel_rfl, by kernel_rfl⟩
theorem tok0 : Okk bs0 := openT_okk (newP_okk 2097152 (by decide))
theorem tok1 : Okk as1 := putP_okk tok0 _ _
theorem tok2 : Okk as2 := syncT_okk tok1 _
theorem tok3 : Okk as3 := putP_okk tok2 _ _
theorem tok4 : Okk as4 := tok3.crash _
theorem tok5 : Okk as5 := tok4.start
theorem tok6 : Okk as6 := openT_okk tok5
end Go.Proofs.Ytehjbhnlbjbhfaa.Tp
-- TpQ
namespace Go.Proofs.Ytehjbhnlbjbhfaa.Tp
open Go Go.RowKit Go.Proofs.YtehjbhnlbjbhfaaW.PrintWords Go.Proofs.YtehjbhnlbjbhfaaW.PrintLast Go.Proofs.YtehjbhnlbjbhfaaW.PrintMore Go.Proofs.Ytehjbhnlbjbhfaa.Wire Go.Proofs.Ytehjbhnlbjbhfaa.Wk Go.Proofs.Ytehjbhnlbjbhfaa.Dk
open Go.Proofs.Ytehjbhnlbjbhfaa.PTapePlays
set_option linter.unusedVariables false
set_option linter.unusedSimpArgs false
theorem Ws.al {P : Nat → Prop} {w w1 : World} {o : Obj} (h : Ws P (w.alloc o) w1) : Ws P w w1 := (Ws.of_below (below_alloc (Below.refl _ _) o)).trans (h.mono (fun _ _ hp => hp))
theorem bs_one (c : Int) (h : 0 ≤ c ∧ c < 256) : Bs [c] := fun x hx => by simp at hx; subst hx; exact h
theorem one_row {G : Nat → Prop} (W : World) (c : Int) (hG : ∀ b, G b → b < W.heap.size) : Rw G .u8 (W.alloc (.cells #[.int .u8 c] 5 (1, 2))) (.slice (some ⟨W.heap.size, 0, none⟩) 1 1) [c] := lit_row .u8 W [c] 5 (1, 2) hG (by simp)
theorem one_string (W : World) (s : ByteArray) : Kd.C Kd.string (W.alloc (.cells #[.string s] 9)) (some ⟨W.heap.size, 0, none⟩) 1 [s] := by
  refine ⟨rfl, by decide, fun _ => ⟨⟨W.heap.size, 0, none⟩, rfl, fun j p hj => ?_⟩⟩
  have : j = 0 := by have := (List.getElem?_eq_some_iff.1 hj).1; simp at this; omega
  subst this
  simp at hj
  subst hj
  refine ⟨[.string s], rfl, rfl, fun q u hq => ?_⟩
  have : q = 0 := by have := (List.getElem?_eq_some_iff.1 hq).1; simp at this; omega
  subst this
  simp at hq
  subst hq
  rw [add_plain]
  simp
theorem abs5 : BsD as5 := by
  have h : (as5.fs.all fun f => (f.seen.all fun x => decide (0 ≤ x ∧ x < 256)) && f.lasts.all fun x => decide (0 ≤ x ∧ x < 256)) = true := by kernel_rfl
  intro f hf
  have := List.all_eq_true.1 h f hf
  rw [Bool.and_eq_true, List.all_eq_true, List.all_eq_true] at this
  exact ⟨fun x hx => of_decide_eq_true (this.1 x hx), fun x hx => of_decide_eq_true (this.2 x hx)⟩
set_option maxHeartbeats 8000000 in
set_option maxRecDepth 100000 in
theorem awake_calls (w : World) : Calls Try.prog 31 #[] w fun e w' => e = .returned (.bool true) ∧ Below w.heap.size w w' := by
  go_enter Try.func31, Try.ntmps31
  go_wp2_with (fail)
  refine (begun_calls _).mono ?_
  rintro e w1 ⟨b, t, rfl, hb, ht, hD, hT, hB⟩
  obtain ⟨G, hG⟩ : ∃ G : Nat → Prop, (fun k => k = b ∨ k = t) = G := ⟨_, rfl⟩
  rw [hG] at hD hT
  have HGS := Aside0.mk (show ∀ k, TG t b k → w.heap.size ≤ k by rintro k (rfl | rfl); exact ht; exact hb)
  have HD := Aside0.mk hD
  have HT := Aside0.mk hT
  have HB := Aside0.mk hB
  clear hb ht hD hT hB
  have hcv1 : (convert 32 32 (.slice (some ⟨w1.heap.size, 0, none⟩) 1 1)).run Try.prog (w1.alloc (.cells #[.int .u8 97] 5)) = .ok (.slice (some ⟨w1.heap.size, 0, none⟩) 1 1) (w1.alloc (.cells #[.int .u8 97] 5 (1, 2))) := Go.Joins.run_convert_bytes_const_at w1 32 5 #[.int .u8 97] 1 1 w1.heap.size rfl Try.underlying32 Try.underlying5
  go_wp2_with (fail)
  refine (TPut_calls G t b bx bs0 _ [97] _ (HT.out.al _) (HD.out.al _) tok0 (one_row w1 97 HD.out.lt) (bs_one 97 (by decide)) (by decide) (by decide)).mono ?_
  rw [ta1]
  rintro e w2 ⟨rfl, hT2, hD2, hW2⟩
  have HT2 := Aside0.mk hT2
  have HD2 := Aside0.mk hD2
  have HB2 := Aside0.mk (hW2.al.below HB.out HGS.out)
  clear hT2 hD2 hW2 HT HD HB
  go_wp2_with (fail)
  refine (TSync_calls G t b ax1 as1 _ HT2.out HD2.out tok1).mono ?_
  rw [ta2]
  rintro e w3 ⟨rfl, hT3, hD3, hW3⟩
  have HT3 := Aside0.mk hT3
  have HD3 := Aside0.mk hD3
  have HB3 := Aside0.mk (hW3.below HB2.out HGS.out)
  clear hT3 hD3 hW3 HT2 HD2 HB2
  have hcv3 : (convert 32 32 (.slice (some ⟨w3.heap.size, 0, none⟩) 1 1)).run Try.prog (w3.alloc (.cells #[.int .u8 98] 5)) = .ok (.slice (some ⟨w3.heap.size, 0, none⟩) 1 1) (w3.alloc (.cells #[.int .u8 98] 5 (1, 2))) := Go.Joins.run_convert_bytes_const_at w3 32 5 #[.int .u8 98] 1 1 w3.heap.size rfl Try.underlying32 Try.underlying5
  go_wp2_with (fail)
  refine (TPut_calls G t b ax2 as2 _ [98] _ (HT3.out.al _) (HD3.out.al _) tok2 (one_row w3 98 HD3.out.lt) (bs_one 98 (by decide)) (by decide) (by rw [tl3.2]; decide)).mono ?_
  rw [ta3]
  rintro e w4 ⟨rfl, hT4, hD4, hW4⟩
  have HT4 := Aside0.mk hT4
  have HD4 := Aside0.mk hD4
  have HB4 := Aside0.mk (hW4.al.below HB3.out HGS.out)
  clear hT4 hD4 hW4 HT3 HD3 HB3
  go_wp2_with (fail)
  refine (Kept_calls G t b ax3 _ HT4.out).mono ?_
  rw [tk3]
  rintro e w5 ⟨rfl, ⟨n5, rfl⟩⟩
  have HK5 := Aside0.mk (HD4.out.drN n5)
  have HB5 := Aside0.mk (pw_below_drewN HB4.out n5)
  clear HT4 HD4 HB4
  go_wp2_with (fail)
  refine (Crash_calls G b as3 (.slice none 0 0) [] _ HK5.out tok3 (Rw.nil _ _ _) (fun x hx => by cases hx)).mono ?_
  rw [ta4]
  rintro e w6 ⟨rfl, hD6, hW6⟩
  have HD6 := Aside0.mk hD6
  have HB6 := Aside0.mk ((Ws.of_wr (P := TG t b) hW6 (.inr rfl)).below HB5.out HGS.out)
  clear hD6 hW6 HK5 HB5
  go_wp2_with (fail)
  refine (Start_calls G b as4 _ HD6.out).mono ?_
  rw [ta5]
  rintro e w7 ⟨rfl, hD7, hW7⟩
  have HD7 := Aside0.mk hD7
  have HB7 := Aside0.mk ((Ws.of_wr (P := TG t b) hW7 (.inr rfl)).below HB6.out HGS.out)
  clear hD7 hW7 HD6 HB6
  go_wp2_with (fail)
  refine (Open_calls G b as5 _ HD7.out tok5 abs5).mono ?_
  rw [ta6]
  rintro e w8 ⟨p, rfl, hD8, hW8, hp, hT8⟩
  subst hp
  obtain ⟨t2, ht2⟩ : ∃ t2, w7.heap.size = t2 := ⟨_, rfl⟩
  rw [ht2] at hD8 hT8
  have HG2 := Aside0.mk (show ∀ k, TG t2 b k → w.heap.size ≤ k by
    rintro k (rfl | rfl)
    · rw [← ht2]; exact HB7.out.size
    · exact HGS.out _ (.inr rfl))
  have HD8 := Aside0.mk hD8
  have HT8 := Aside0.mk hT8
  have HB8 := Aside0.mk ((hW8.mono (P' := TG t2 b) (fun k _ e => .inr e)).below HB7.out HG2.out)
  clear hD8 hT8 hW8 HD7 HB7
  go_wp2_with (fail)
  refine (records_calls _ t2 b ax6 _ HT8.out (by rw [tl6]; decide) (by rw [tl6]; decide)).mono ?_
  rintro e w9 ⟨v, rfl, hR9, hB9⟩
  obtain ⟨A9, c9, rfl⟩ := Kd.R_slice hR9
  have HR9 := Aside0.mk (show Kd.C Kd.string w9 A9 1 [strOfNums [97]] ∧ 1 ≤ c9 by
    have h1 := Kd.R_reads' hR9
    rw [tl6] at h1
    exact ⟨h1.2.2, h1.2.1⟩)
  have HLN := Aside0.mk (show (ax6.r.l.map strOfNums).length = 1 by rw [tl6]; rfl)
  rw [HLN.out]
  have HT9 := Aside0.mk (HT8.out.below hB9)
  have HD9 := Aside0.mk (HD8.out.below hB9)
  have HB9 := Aside0.mk (below_step HB8.out hB9)
  clear hR9 hB9 HT8 HD8 HB8
  go_wp2_with (fail)
  refine (slices_Equal_string_string.calls 10 A9 c9 [strOfNums [97]] (some ⟨w9.heap.size, 0, none⟩) 1 [⟨#[97]⟩] true _ (Kd.C_alloc HR9.out.1 _) HR9.out.2 (one_string w9 ⟨#[97]⟩) (by decide) (by decide +kernel)).mono ?_
  rintro e w10 ⟨rfl, ⟨n10, rfl⟩⟩
  have hs10 : ((w9.alloc (.cells #[.string ⟨#[97]⟩] 9)).drewN n10).heap.size = w9.heap.size + 1 := by simp
  have HB10 := Aside0.mk (pw_below_drewN (below_alloc (Below.refl w9.heap.size w9) (.cells #[.string ⟨#[97]⟩] 9)) n10)
  have hcv10 : (convert 32 32 (.slice (some ⟨w9.heap.size + 1, 0, none⟩) 1 1)).run Try.prog (((w9.alloc (.cells #[.string ⟨#[97]⟩] 9)).drewN n10).alloc (.cells #[.int .u8 120] 5)) = .ok (.slice (some ⟨w9.heap.size + 1, 0, none⟩) 1 1) (((w9.alloc (.cells #[.string ⟨#[97]⟩] 9)).drewN n10).alloc (.cells #[.int .u8 120] 5 (1, 2))) := Go.Joins.run_convert_bytes_const_at _ 32 5 #[.int .u8 120] 1 1 (w9.heap.size + 1) hs10.symm Try.underlying32 Try.underlying5
  have HROW := Aside0.mk (one_row ((w9.alloc (.cells #[.string ⟨#[97]⟩] 9)).drewN n10) 120 (HD9.out.below HB10.out).lt)
  rw [hs10] at HROW
  have HBA := Aside0.mk (below_alloc HB10.out (.cells #[.int .u8 120] 5 (1, 2)))
  go_wp2_with (fail)
  refine (Save_calls _ t2 b ax6 as6 _ (.slice none 0 0) [120] [] _ (HT9.out.below HBA.out) (HD9.out.below HBA.out) tok6 HROW.out (Rs.nil _ _) ⟨tg6.1, tg6.2, bs_one 120 (by decide), (fun d hd => absurd hd (by simp)), by decide, by decide, by decide⟩).mono ?_
  rw [ta7]
  rintro e w11 ⟨rfl, hT11, hD11, hW11⟩
  have HT11 := Aside0.mk hT11
  have HD11 := Aside0.mk hD11
  have HB11 := Aside0.mk (hW11.below (below_step HB9.out HBA.out) HG2.out)
  clear hT11 hD11 hW11
  go_wp2_with (fail)
  refine (Base_calls _ t2 b ax7 _ HT11.out (by rw [tb7.1]; decide)).mono ?_
  rw [tb7.1]
  rintro e w12 ⟨v, rfl, hR12, hB12⟩
  obtain ⟨A12, c12, rfl⟩ := Kd.R_slice hR12
  have hcv12 := Kd.C_string (P := Try.prog) (A := A12) (c := c12) Try.underlying32 Try.underlying5 Try.underlying9 (Kd.R_reads' hR12).2.2
  rw [show ([120] : List Int).length = 1 from rfl] at hcv12 ⊢
  have HT12 := Aside0.mk (HT11.out.below hB12)
  have HB12 := Aside0.mk (below_step HB11.out hB12)
  clear hR12 hB12
  have hx12 : (strOfNums [120] == (⟨#[120]⟩ : ByteArray)) = true := by decide +kernel
  have hy12 : decide (strOfNums [120] = (⟨#[120]⟩ : ByteArray)) = true := by decide +kernel
  have hz12 : (strOfNums [120]).toList = [120] := by decide +kernel
  have HLE := Aside0.mk (show Calls Try.prog 27 #[.pointer (some ⟨t2, 0, none⟩)] w12 fun e w' => e = .returned (.int .i64 0) ∧ Drawn0 w12 w' by
    have := Len_calls _ t2 b ax7 _ HT12.out
    rw [tb7.2] at this
    exact this)
  go_wp2_with (fail)
  refine HLE.out.mono ?_
  rintro e w13 ⟨rfl, ⟨n13, rfl⟩⟩
  go_wp2
  go_ret
  exact ⟨rfl, pw_below_drewN HB12.out n13⟩
end Go.Proofs.Ytehjbhnlbjbhfaa.Tp
-- TpV
namespace Go.Proofs.Ytehjbhnlbjbhfaa.Tp
open Go Go.RowKit Go.Proofs.YtehjbhnlbjbhfaaW.PrintWords Go.Proofs.YtehjbhnlbjbhfaaW.PrintLast Go.Proofs.YtehjbhnlbjbhfaaW.PrintMore Go.Proofs.Ytehjbhnlbjbhfaa.Wire Go.Proofs.Ytehjbhnlbjbhfaa.Wk Go.Proofs.Ytehjbhnlbjbhfaa.Dk
open Go.Proofs.Ytehjbhnlbjbhfaa.PTapePlays
set_option linter.unusedVariables false
set_option linter.unusedSimpArgs false
theorem IsD.wsmore {G P : Nat → Prop} {g b : Nat} {W W' : World} {s : DS} (h : IsD G W g s) (hw : Ws P W W') (hg : ∀ k, P k → G k) (hne : ¬ P g) (hb : W.heap.size ≤ b) (hb' : b < W'.heap.size) : IsD (fun k => G k ∨ k = b) W' g s := by
  have h' := IsD.ws h hw hg hne
  obtain ⟨h1, h2, d, hA, hR⟩ := h
  have hs : ∀ k, k < W.heap.size → (G k ∨ k = b) → G k := fun k hk hG => hG.elim id (fun e => by omega)
  have hg' : ∀ k, P k → (G k ∨ k = b) := fun k hk => .inl (hg k hk)
  exact ⟨fun k hk => hk.elim (h'.lt k) (fun e => e ▸ hb'), .inl h2, d, hA.same (hw.block g (h1 g h2) hne), hR.1, hR.2.1, Rw.ws (hR.2.2.1.grow hs) hw hg', hR.2.2.2.1, hR.2.2.2.2.1, hR.2.2.2.2.2.1, fun i hi => ⟨Rw.ws ((hR.2.2.2.2.2.2 i hi).1.grow hs) hw hg', Rw.ws ((hR.2.2.2.2.2.2 i hi).2.1.grow hs) hw hg', (hR.2.2.2.2.2.2 i hi).2.2⟩⟩
theorem IsT.wsmore {G P : Nat → Prop} {W W' : World} {t g b : Nat} {x : TS} (h : IsT G W t g x) (hw : Ws P W W') (hg : ∀ k, P k → G k) (hne : ¬ P t) (hb : W.heap.size ≤ b) : IsT (fun k => G k ∨ k = b) W' t g x :=
  (h.grow (G' := fun k => G k ∨ k = b) (.inl h.gt) (fun k hk hG => hG.elim id (fun e => by omega))).ws hw (fun k hk => .inl (hg k hk)) hne
theorem saveP_bsd {s : DS} (h : BsD s) (t : TS) {base : List Int} {l : List (List Int)} (hb : Bs base) (hl : ∀ d ∈ l, Bs d) (hg : 0 ≤ t.r.gen) (hn : l.length ≤ 1099511627776) : BsD (saveP t s base l).2.1 := by
  unfold saveP
  split
  · exact h
  · split
    · exact h
    · split
      · exact h
      · split
        · exact h
        · rename_i c1 c2 c3 c4
          obtain ⟨q1, q2⟩ := headE_zero (Decidable.of_not_not c3)
          have hall : Bs ((headE (t.r.gen + 1) (l.length : Int) base).1 ++ l.flatMap sealP) := by
            rw [q2]
            refine (seal_bs (headB_bs (by omega) (by omega) hb (by omega)) (by omega)).app (flat_bs fun d hd => ⟨hl d hd, tooLong_not c4 d hd⟩)
          unfold saveW
          simp only
          split
          · exact h.clear _
          · split
            · exact (h.clear _).append _ hall
            · split
              · exact ((h.clear _).append _ hall).sync _
              · exact ((h.clear _).append _ hall).sync _
theorem putP_bsd {s : DS} (h : BsD s) (t : TS) {d : List Int} (hd : Bs d) : BsD (putP t s d).2.1 := by
  unfold putP
  split
  · exact h
  · simp only
    have := h.append (t.file : Int) (seal_bs hd (by omega))
    split <;> exact this
theorem syncT_bsd {s : DS} (h : BsD s) (t : TS) : BsD (syncT t s).2.1 := by
  unfold syncT
  simp only
  split <;> exact h.sync _
theorem openT_bsd {s : DS} (hok : Okk s) (h : BsD s) : BsD (openT s).2.1 := by
  have hro := pk_rok h hok.1 2 (by decide)
  rw [pk_two] at hro
  unfold openT
  split
  · exact h
  · simp only
    split
    · split
      · exact saveP_bsd h _ hro.1.bb (fun d hd => (hro.1.bl d hd).1) hro.1.gen.1 (by have := flat_len (picked s).1.r.l; have := hro.1.all; show (picked s).1.r.l.length ≤ _; omega)
      · exact saveP_bsd h _ hro.1.bb (fun d hd => (hro.1.bl d hd).1) hro.1.gen.1 (by have := flat_len (picked s).1.r.l; have := hro.1.all; show (picked s).1.r.l.length ≤ _; omega)
    · exact h
theorem rdT_mem {l : List TD} {i : Nat} (h : i < l.length) : rd_T79 l (i : Int) ∈ l := by
  unfold rd_T79
  rw [Int.toNat_natCast, List.getD_eq_getElem?_getD, List.getElem?_eq_getElem h]
  exact List.getElem_mem _
def eqSt (l m : List ByteArray) : Bool := decide (l.map (·.toList) = m.map (·.toList))
theorem eqSt_self (l : List ByteArray) : eqSt l l = true := by simp [eqSt]
theorem rdOf_drop (l : List ByteArray) {i : Nat} (h : i < l.length) : l.drop i = rdOf ByteArray.empty l (i : Int) :: l.drop (i + 1) := by
  unfold rdOf
  rw [List.drop_eq_getElem_cons h, Int.toNat_natCast, List.getD_eq_getElem?_getD, List.getElem?_eq_getElem h]; rfl
theorem strs_l0 (l m : List ByteArray) (hn : l.length = m.length) (hm : l.length ≤ 9223372036854775807) : ∀ (d i : Nat), i + d = l.length → slices_Equal_string_string.l0 (d + 1) l m (l.length : Int) (i : Int) = some (eqSt (l.drop i) (m.drop i)) := by
  intro d
  induction d with
  | zero =>
    intro i hi
    simp only [slices_Equal_string_string.l0]
    rw [if_neg (by omega), List.drop_eq_nil_of_le (by omega), List.drop_eq_nil_of_le (by omega)]
    rfl
  | succ d ih =>
    intro i hi
    rw [slices_Equal_string_string.l0, if_pos (by omega), if_pos (by omega), if_pos (by omega), if_pos (by omega), rdOf_drop l (by omega), rdOf_drop m (by omega)]
    unfold eqSt
    rw [List.map_cons, List.map_cons]
    by_cases c : (rdOf ByteArray.empty l (i : Int)).toList = (rdOf ByteArray.empty m (i : Int)).toList
    · rw [if_pos c, show wrap64 ((i : Int) + 1) = ((i + 1 : Nat) : Int) by unfold wrap64; omega, ih (i + 1) (by omega), c]
      unfold eqSt
      simp
    · rw [if_neg c]
      simp [c]
theorem strs_eq (l m : List ByteArray) (hm : l.length ≤ 9223372036854775807) : ∃ k, slices_Equal_string_string.f k l m = some (eqSt l m) := by
  unfold slices_Equal_string_string.f
  by_cases c : l.length = m.length
  · refine ⟨l.length + 1, ?_⟩
    rw [if_pos (by omega)]
    have := strs_l0 l m c hm l.length 0 (Nat.zero_add _)
    simpa using this
  · refine ⟨0, ?_⟩
    rw [if_neg (by omega)]
    have : ¬ l.map (·.toList) = m.map (·.toList) := fun e => c (by have := congrArg List.length e; simpa using this)
    simp [eqSt, this]
theorem strs_calls (A0 : Option Addr) (c0 : Nat) (l0 : List ByteArray) (A1 : Option Addr) (c1 : Nat) (l1 : List ByteArray) (w : World) (hr0 : Kd.C Kd.string w A0 l0.length l0) (hc0 : l0.length ≤ c0) (hr1 : Kd.C Kd.string w A1 l1.length l1) (hc1 : l1.length ≤ c1) :
    Calls Try.prog 39 #[.slice A0 l0.length c0, .slice A1 l1.length c1] w fun e w' => e = .returned (.bool (eqSt l0 l1)) ∧ Drawn0 w w' := by
  obtain ⟨k, hk⟩ := strs_eq l0 l1 (Kd.C_max hr0)
  exact slices_Equal_string_string.calls k A0 c0 l0 A1 c1 l1 _ w hr0 hc0 hr1 hc1 hk
theorem newP_calm {room : Int} (h : room ≠ 0) : Calm (newP room) := ⟨h, rfl, rfl, rfl⟩
end Go.Proofs.Ytehjbhnlbjbhfaa.Tp
-- TpW
namespace Go.Proofs.Ytehjbhnlbjbhfaa.Tp
open Go Go.RowKit Go.Proofs.YtehjbhnlbjbhfaaW.PrintWords Go.Proofs.YtehjbhnlbjbhfaaW.PrintLast Go.Proofs.YtehjbhnlbjbhfaaW.PrintMore Go.Proofs.Ytehjbhnlbjbhfaa.Wire Go.Proofs.Ytehjbhnlbjbhfaa.Wk Go.Proofs.Ytehjbhnlbjbhfaa.Dk
open Go.Proofs.Ytehjbhnlbjbhfaa.PTapePlays
set_option linter.unusedVariables false
set_option linter.unusedSimpArgs false
def St (G : Nat → Prop) (W : World) (v : Value) (xs : List ByteArray) : Prop := Kd.V Kd.string 0 W 0 (fun b => ¬ G b) v xs
theorem St.ws {G P : Nat → Prop} {W W' : World} {v : Value} {xs : List ByteArray} (h : St G W v xs) (hw : Ws P W W') (hg : ∀ b, P b → G b) : St G W' v xs := Kd.V_step h (fun b hb hlt => hw.block b hlt (fun e => hb (hg b e)))
theorem St.below {G : Nat → Prop} {W W' : World} {v : Value} {xs : List ByteArray} (h : St G W v xs) (hw : Below W.heap.size W W') : St G W' v xs := Kd.V_below h hw
theorem St.grow {G G' : Nat → Prop} {W : World} {v : Value} {xs : List ByteArray} (h : St G W v xs) (hg : ∀ b, b < W.heap.size → G' b → G b) : St G' W v xs := Kd.V_mono (Kd.V_bound h) (fun b hb hG => hb.1 (hg b hb.2 hG))
theorem bytes_same (A : Option Addr) (c : Nat) (B : Option Addr) (d : Nat) (l : List Int) (w : World) (h1 : Kd.C (Kd.int .u8) w A l.length l) (hc : l.length ≤ c) (h2 : Kd.C (Kd.int .u8) w B l.length l) (hd : l.length ≤ d) :
    Calls Try.prog 22 #[.slice A l.length c, .slice B l.length d] w fun e w' => e = .returned (.bool true) ∧ Drawn0 w w' := PTapePlays.bytes_Equal.calls A c l B d l true w h1 hc h2 hd (by unfold PTapePlays.bytes_Equal.f; simp)
theorem bs0_bsd : BsD bs0 := openT_bsd (newP_okk 2097152 (by decide)) (newP_bs _)
theorem St.slice {G : Nat → Prop} {W : World} {v : Value} {xs : List ByteArray} (h : St G W v xs) : ∃ A c, v = .slice A xs.length c ∧ xs.length ≤ c ∧ Kd.C Kd.string W A xs.length xs := by
  obtain ⟨A, c, rfl⟩ := Kd.V_slice h
  exact ⟨A, c, rfl, (Kd.V_reads' h).2.1, (Kd.V_reads' h).2.2⟩
theorem St.of_R {G : Nat → Prop} {e : Nat} {W W0 : World} {v : Value} {xs : List ByteArray} (h : Kd.R Kd.string e W W0.heap.size (fun _ => True) v xs) (hG : ∀ b, G b → b < W0.heap.size) : St G W v xs :=
  show Kd.V Kd.string e W 0 (fun b => ¬ G b) v xs from Kd.R_V (Kd.R_mono (Kd.R_bound h) (fun b hb hg => by have := hb.2.1; have := hG b hg; omega))
theorem Rs.came {G : Nat → Prop} {w : World} {A : Option Addr} {c : Nat} {xs : List (List Int)} (h : Kd.C KdB w A xs.length xs) (hc : xs.length ≤ c) (hG : ∀ b, G b → w.heap.size ≤ b) : Rs G w (.slice A xs.length c) xs :=
  Kd.V_mk hc (Kd.F_mono (Kd.C_F (Kd.heap_slice 5 (Kd.heap_int .u8)) h) (fun b hb hg => by have := hG b hg; omega))
theorem one_KT {W : World} {g : Nat} {t : TypeId} {fr : Nat × Nat} {cs : List Value} {y : TD} (hg : W.heap[g]? = some (.cells cs.toArray t fr)) (h : k79.K W y cs) : k79.C W (some ⟨g, 0, none⟩) 1 [y] := by
  refine ⟨rfl, by decide, fun _ => ⟨_, rfl, fun j p hj => ?_⟩⟩
  match j, hj with
  | 0, hj =>
    injection hj with hj
    subst hj
    refine ⟨cs, k79.K_len h, h, fun i u hi => ?_⟩
    have ha : (⟨g, 0, none⟩ : Addr).add (0 * k79.sz + i) = ⟨g, i, none⟩ := by rw [add_at]; simp
    rw [ha, cell_of_row W g i _ t fr hg, List.getElem?_toArray, hi]
theorem tshort2 (l m : List TD) (A : Option Addr) (c : Nat) (B : Option Addr) (d : Nat) (w : World) (hC : k79.C w A l.length l) (hc : l.length ≤ c) (hD : k79.C w B m.length m) (hd : m.length ≤ d) : ∃ r : Bool, (r = true → (l.length ≤ 60 ∧ ∀ x ∈ l, TSmall x) ∧ ∀ x ∈ m, TSmall x) ∧
    Calls Try.prog 37 #[.slice (some ⟨w.heap.size, 0, none⟩) 2 2] (w.alloc (.cells #[.slice A l.length c, .slice B m.length d] 75)) fun e w' => e = .returned (.bool r) ∧ Below w.heap.size w w' := by
  obtain ⟨k, r, h1, h2⟩ := tshort_says [l, m] (by simp) (fun x hx => by
    rcases List.mem_cons.1 hx with rfl | hx
    · exact td_max hC
    · rw [List.mem_singleton.1 hx]; exact td_max hD)
  refine ⟨r, fun e => ⟨h2 e l (by simp), (h2 e m (by simp)).2⟩, ?_⟩
  refine (towlinelaw06_short.calls k _ 2 [l, m] r _ (tlists_C (cs := [.slice A l.length c, .slice B m.length d]) (blk_new w (.cells #[.slice A l.length c, .slice B m.length d] 75)) (by simp) ?_) (Nat.le_refl _) h1).mono ?_
  · intro j x hj
    match j, hj with
    | 0, hj =>
      injection hj with hj
      subst hj
      exact ⟨A, c, rfl, hc, Kd.C_below hC (below_alloc (Below.refl _ _) _)⟩
    | 1, hj =>
      injection hj with hj
      subst hj
      exact ⟨B, d, rfl, hd, Kd.C_below hD (below_alloc (Below.refl _ _) _)⟩
  · rintro e w' ⟨rfl, hb⟩
    exact ⟨rfl, below_step (below_alloc (Below.refl _ _) _) hb⟩
theorem begun_tok : TOk bx bs0 := by
  rcases save_calm (t := ⟨noReel, 1, 0⟩) (s := newP 2097152) (newP_calm (by decide)) (by decide) (by decide) (by decide +kernel) (base := []) (l := []) (fun x hx => by cases hx) (fun d hd => by cases hd) (by decide) with ⟨_, _, h⟩ | ⟨h, _⟩
  · have e1 : (saveP ⟨noReel, 1, 0⟩ (newP 2097152) [] []).1 = bx := by kernel_rfl
    have e2 : (saveP ⟨noReel, 1, 0⟩ (newP 2097152) [] []).2.1 = bs0 := by kernel_rfl
    rw [e1, e2] at h
    exact h
  · exact absurd (show _ = (0 : Int) by kernel_rfl) h
theorem flat_small {ls : List (List Int)} (h1 : 4 * ls.length ≤ 16384) (h2 : ∀ d ∈ ls, d.length ≤ 16384) : (ls.flatMap sealP).length < 900000000 := by
  have : ∀ (m : List (List Int)), (∀ d ∈ m, d.length ≤ 16384) → (m.flatMap sealP).length ≤ m.length * 16400 := by
    intro m
    induction m with
    | nil => intro _; simp
    | cons d m ih =>
      intro h
      have h3 := ih (fun x hx => h x (List.mem_cons_of_mem _ hx))
      have h4 := h d (List.mem_cons_self ..)
      have h5 := seal_len d
      have h6 := enc_len 9 d.length
      rw [List.flatMap_cons, List.length_append, List.length_cons]
      omega
  have := this ls h2
  omega
theorem TOk.saveOk {x : TS} {s : DS} (h : TOk x s) {base : List Int} {ls : List (List Int)} (hb : Bs base) (hl : ∀ d ∈ ls, Bs d) (hbl : base.length < 1000000000) (h1 : 4 * ls.length ≤ 16384) (h2 : ∀ d ∈ ls, d.length ≤ 16384) : SaveOk x base ls :=
  ⟨by have := h.wrote.gen; omega, h.file, hb, hl, hbl, by omega, flat_small h1 h2⟩
theorem TOk.many {x : TS} {s : DS} (h : TOk x s) (hok : Ok s) : x.r.l.length ≤ 4194304 := by
  have h1 := h.wrote.len
  have h2 := flat_len x.r.l
  have h3 := hok.seen_le (i := x.file) (by have := h.file; omega)
  omega
end Go.Proofs.Ytehjbhnlbjbhfaa.Tp
-- RdA
namespace Go.Proofs.Ytehjbhnlbjbhfaa.Rd
open Go Go.RowKit Go.Proofs.YtehjbhnlbjbhfaaW.PrintWords Go.Proofs.YtehjbhnlbjbhfaaW.PrintLast Go.Proofs.YtehjbhnlbjbhfaaW.PrintMore Go.Proofs.Ytehjbhnlbjbhfaa.Dk
set_option linter.unusedVariables false
set_option linter.unusedSimpArgs false
structure XF where
  told : ByteArray
  lasts : ByteArray
  cl : Bool
structure XV where
  fs : List XF
  room : Int
  off : Bool
  fuse : Int
  kv : Value
def XF.cells (f : XF) : List Value := [.string f.told, .string f.lasts, .bool f.cl]
def XV.cells (d : XV) : List Value := d.fs.flatMap XF.cells ++ [.int .i64 d.room, .bool d.off, .int .i64 d.fuse, d.kv]
def toXF (f : Fl) : XF := ⟨strOfNums f.seen, strOfNums f.lasts, f.cl⟩
def XV.f (d : XV) (i : Nat) : XF := d.fs.getD i (toXF nf)
def AtX (W : World) (x : Nat) (d : XV) : Prop := d.fs.length = 8 ∧ W.heap[x]? = some (.cells d.cells.toArray 107 (0, 0))
def fuseP (s : DS) : Int := if s.set = true then s.left else 0
def toXV (s : DS) (kv : Value) : XV := ⟨s.fs.map toXF, s.room, s.off, fuseP s, kv⟩
theorem toXV_f {s : DS} (h : s.fs.length = 8) {i : Nat} (hi : i < 8) (kv : Value) : (toXV s kv).f i = toXF (fl s i) := by
  unfold XV.f toXV fl
  rw [List.getD_eq_getElem?_getD, List.getD_eq_getElem?_getD, List.getElem?_map, List.getElem?_eq_getElem (by omega)]; rfl
section
variable {W : World} {x : Nat} {d : XV}
theorem AtX.cell (h : AtX W x d) (i : Nat) : W.cell? ⟨x, i, none⟩ = d.cells[i]? := by rw [blk_cell h.2 i]; simp
theorem AtX.frozen (h : AtX W x d) (i : Nat) : W.frozen? ⟨x, i, none⟩ = false := blk_frozen h.2 i
theorem AtX.c24 (h : AtX W x d) : W.cell? ⟨x, 24, none⟩ = some (.int .i64 d.room) := by
  rw [h.cell 24]; obtain ⟨a0, a1, a2, a3, a4, a5, a6, a7, e⟩ := eight h.1; unfold XV.cells; rw [e]; rfl
theorem AtX.c26 (h : AtX W x d) : W.cell? ⟨x, 26, none⟩ = some (.int .i64 d.fuse) := by
  rw [h.cell 26]; obtain ⟨a0, a1, a2, a3, a4, a5, a6, a7, e⟩ := eight h.1; unfold XV.cells; rw [e]; rfl
theorem AtX.c27 (h : AtX W x d) : W.cell? ⟨x, 27, none⟩ = some d.kv := by
  rw [h.cell 27]; obtain ⟨a0, a1, a2, a3, a4, a5, a6, a7, e⟩ := eight h.1; unfold XV.cells; rw [e]; rfl
theorem AtX.told (h : AtX W x d) {i : Nat} (hi : i < 8) : W.cell? ⟨x, i * 3, none⟩ = some (.string (d.f i).told) := by
  rw [h.cell]; obtain ⟨a0, a1, a2, a3, a4, a5, a6, a7, e⟩ := eight h.1; unfold XV.cells XV.f; rw [e]
  rcases below8 hi with rfl | rfl | rfl | rfl | rfl | rfl | rfl | rfl <;> rfl
theorem AtX.lasts (h : AtX W x d) {i : Nat} (hi : i < 8) : W.cell? ⟨x, i * 3 + 1, none⟩ = some (.string (d.f i).lasts) := by
  rw [h.cell]; obtain ⟨a0, a1, a2, a3, a4, a5, a6, a7, e⟩ := eight h.1; unfold XV.cells XV.f; rw [e]
  rcases below8 hi with rfl | rfl | rfl | rfl | rfl | rfl | rfl | rfl <;> rfl
theorem AtX.cl (h : AtX W x d) {i : Nat} (hi : i < 8) : W.cell? ⟨x, i * 3 + 2, none⟩ = some (.bool (d.f i).cl) := by
  rw [h.cell]; obtain ⟨a0, a1, a2, a3, a4, a5, a6, a7, e⟩ := eight h.1; unfold XV.cells XV.f; rw [e]
  rcases below8 hi with rfl | rfl | rfl | rfl | rfl | rfl | rfl | rfl <;> rfl
theorem AtX.lt (h : AtX W x d) : x < W.heap.size := blk_lt h.2
theorem AtX.same (h : AtX W x d) {W' : World} (he : W'.heap[x]? = W.heap[x]?) : AtX W' x d := ⟨h.1, he.trans h.2⟩
theorem AtX.put (h : AtX W x d) {d' : XV} (hl : d'.fs.length = 8) (i : Nat) (u : Value) (e : d.cells.toArray.setIfInBounds i u = d'.cells.toArray) : AtX (W.setCell ⟨x, i, none⟩ u) x d' := ⟨hl, e ▸ blk_set h.2 i u⟩
theorem AtX.set26 (h : AtX W x d) (n : Int) : AtX (W.setCell ⟨x, 26, none⟩ (.int .i64 n)) x { d with fuse := n } := by
  refine h.put (d' := { d with fuse := n }) h.1 26 _ ?_
  obtain ⟨a0, a1, a2, a3, a4, a5, a6, a7, e⟩ := eight h.1; unfold XV.cells; simp only [e]; rfl
theorem AtX.setL (h : AtX W x d) {i : Nat} (hi : i < 8) (b : ByteArray) : AtX (W.setCell ⟨x, i * 3 + 1, none⟩ (.string b)) x { d with fs := d.fs.set i ⟨(d.f i).told, b, (d.f i).cl⟩ } := by
  refine h.put (by simp [h.1]) _ _ ?_
  obtain ⟨a0, a1, a2, a3, a4, a5, a6, a7, e⟩ := eight h.1; unfold XV.cells XV.f; simp only [e]
  rcases below8 hi with rfl | rfl | rfl | rfl | rfl | rfl | rfl | rfl <;> rfl
theorem AtX.setC (h : AtX W x d) {i : Nat} (hi : i < 8) (b : Bool) : AtX (W.setCell ⟨x, i * 3 + 2, none⟩ (.bool b)) x { d with fs := d.fs.set i ⟨(d.f i).told, (d.f i).lasts, b⟩ } := by
  refine h.put (by simp [h.1]) _ _ ?_
  obtain ⟨a0, a1, a2, a3, a4, a5, a6, a7, e⟩ := eight h.1; unfold XV.cells XV.f; simp only [e]
  rcases below8 hi with rfl | rfl | rfl | rfl | rfl | rfl | rfl | rfl <;> rfl
theorem XV.f_set (d : XV) (h : d.fs.length = 8) {i : Nat} (hi : i < 8) (f : XF) : XV.f { d with fs := d.fs.set i f } i = f := by
  unfold XV.f; rw [List.getD_eq_getElem?_getD, List.getElem?_set_self (by rw [h]; exact hi)]; rfl
end
section
variable {W : World} {x : Nat} {s : DS} {kv : Value}
theorem len_of (h : AtX W x (toXV s kv)) : s.fs.length = 8 := by have := h.1; unfold toXV at this; simpa using this
theorem toXV_set (s : DS) (kv : Value) (i : Nat) (f : Fl) : ({ toXV s kv with fs := (toXV s kv).fs.set i (toXF f) } : XV) = toXV (setF s i f) kv := by
  unfold toXV setF fuseP
  simp only [List.map_set]
theorem AtX.clear (h : AtX W x (toXV s kv)) {i : Nat} (hi : i < 8) (b : Bool) : AtX (W.setCell ⟨x, i * 3 + 2, none⟩ (.bool b)) x (toXV (setF s i ⟨(fl s i).seen, (fl s i).lasts, b⟩) kv) := by
  have h2 := h.setC hi b
  rw [toXV_f (len_of h) hi] at h2
  rw [← toXV_set]; exact h2
theorem set_set (s : DS) (i : Nat) (f f' : Fl) : setF (setF s i f) i f' = setF s i f' := by unfold setF; simp only [List.set_set]
end
structure IsX (G : Nat → Prop) (W : World) (x : Nat) (s : DS) : Prop where
  lt : ∀ b, G b → b < W.heap.size
  gg : G x
  ex : ∃ kv, AtX W x (toXV s kv) ∧ Rw G .i64 W kv s.keep
theorem IsX.len {G : Nat → Prop} {W : World} {x : Nat} {s : DS} (h : IsX G W x s) : s.fs.length = 8 := by obtain ⟨_, _, kv, hA, _⟩ := h; exact len_of hA
theorem IsX.other {G : Nat → Prop} {x g' : Nat} {W W' : World} {s : DS} (h : IsX G W x s) (hw : Wr g' W W') (hg : G g') (hne : x ≠ g') : IsX G W' x s := by
  obtain ⟨h1, h2, kv, hA, hR⟩ := h
  exact ⟨fun b hb => Nat.lt_of_lt_of_le (h1 b hb) hw.size, h2, kv, hA.same (hw.block x (h1 x h2) hne), hR.wr hw hg⟩
theorem IsX.below {G : Nat → Prop} {x : Nat} {W W' : World} {s : DS} (h : IsX G W x s) (hw : Below W.heap.size W W') : IsX G W' x s := by
  obtain ⟨h1, h2, kv, hA, hR⟩ := h
  exact ⟨fun b hb => Nat.lt_of_lt_of_le (h1 b hb) hw.size, h2, kv, hA.same (hw.block x (h1 x h2)), hR.wr (Wr.of_below hw) h2⟩
theorem IsX.drew {G : Nat → Prop} {x : Nat} {W W' : World} {s : DS} (h : IsX G W x s) (hw : Drawn0 W W') : IsX G W' x s := h.below hw.below
theorem IsX.grow {G G' : Nat → Prop} {x : Nat} {W : World} {s : DS} (h : IsX G W x s) (hlt : ∀ k, G' k → k < W.heap.size) (hg : G' x) (hs : ∀ k, k < W.heap.size → G' k → G k) : IsX G' W x s := by
  obtain ⟨_, _, kv, hA, hR⟩ := h
  exact ⟨hlt, hg, kv, hA, hR.grow hs⟩
set_option maxHeartbeats 2000000 in
theorem burn_calls (G : Nat → Prop) (x : Nat) (s : DS) (n : Nat) (w : World) (h : IsX G w x s) (hok : Ok s) (hn : n < 1000000000) : Calls Try.prog 66 #[.pointer (some ⟨x, 0, none⟩), .int .i64 (n : Int)] w fun e w' => e = .returned (.tuple #[.int .i64 ((burnN s n : Nat) : Int), .bool (struckP s n)]) ∧ IsX G w' x (burnS s n) ∧ Wr x w w' := by
  have H := Aside0.mk h
  obtain ⟨_, _, kv, hA, hR⟩ := h
  have hc : w.cell? ⟨x, 26, none⟩ = some (.int .i64 (fuseP s)) := hA.c26
  have hf := hA.frozen 26
  have HA := Aside0.mk hA
  have HR := Aside0.mk hR
  have hfu := hok.fuse
  clear hA hR hok
  by_cases c : s.set = true
  · have hfu2 := hfu c
    have HS := Aside0.mk c
    rw [show fuseP s = s.left from if_pos c] at hc
    obtain ⟨q, hq⟩ : ∃ q, s.left = q := ⟨_, rfl⟩
    have HQ := Aside0.mk hq
    rw [hq] at hc hfu2
    have d0 : (q == (0 : Int)) = false := by simp; omega
    clear hfu c hq
    by_cases c2 : q ≤ (n : Int)
    · have d1 : decide (q ≤ (n : Int)) = true := decide_eq_true c2
      have HE1 := Aside0.mk (show ((burnN s n : Nat) : Int) = q by unfold burnN; rw [if_pos ⟨HS.out, by rw [HQ.out]; exact c2⟩, HQ.out]; omega)
      have HE2 := Aside0.mk (show struckP s n = true by unfold struckP; rw [HS.out, HQ.out, d1]; rfl)
      have HE3 := Aside0.mk (show burnS s n = s by unfold burnS; rw [if_neg (fun h => by rw [HQ.out] at h; omega)])
      rw [HE1.out, HE2.out, HE3.out]
      go_enter Try.func66, Try.ntmps66
      go_wp2
      go_ret2
      exact ⟨rfl, H.out, Wr.refl _ _⟩
    · have d1 : decide (q ≤ (n : Int)) = false := decide_eq_false c2
      have HE1 := Aside0.mk (show burnN s n = n by unfold burnN; rw [if_neg (fun h => c2 (by rw [HQ.out] at h; exact h.2))])
      have HE2 := Aside0.mk (show struckP s n = false by unfold struckP; rw [HQ.out, d1, Bool.and_false])
      have HE3 := Aside0.mk (show burnS s n = { s with left := q - (n : Int) } by unfold burnS; rw [if_pos ⟨HS.out, by rw [HQ.out]; omega⟩, HQ.out])
      rw [HE1.out, HE2.out, HE3.out]
      go_enter Try.func66, Try.ntmps66
      go_wp2
      go_ret2
      have hx := HA.out.set26 (q - (n : Int))
      have hw := (Wr.refl x w).set 26 (.int .i64 (q - (n : Int)))
      refine ⟨rfl, ⟨fun b hb => Nat.lt_of_lt_of_le (H.out.lt b hb) hw.size, H.out.gg, kv, ?_, HR.out.wr hw H.out.gg⟩, hw⟩
      have : ({ toXV s kv with fuse := q - (n : Int) } : XV) = toXV { s with left := q - (n : Int) } kv := by
        show (⟨s.fs.map toXF, s.room, s.off, q - (n : Int), kv⟩ : XV) = ⟨s.fs.map toXF, s.room, s.off, (if s.set = true then q - (n : Int) else 0), kv⟩
        rw [if_pos HS.out]
      rw [← this]; exact hx
  · rw [show fuseP s = 0 from if_neg c] at hc
    have c' : s.set = false := by simpa using c
    have HE1 := Aside0.mk (show burnN s n = n by unfold burnN; rw [if_neg (fun h => c h.1)])
    have HE2 := Aside0.mk (show struckP s n = false by unfold struckP; rw [c', Bool.false_and])
    have HE3 := Aside0.mk (show burnS s n = s by unfold burnS; rw [if_neg (fun h => c h.1)])
    rw [HE1.out, HE2.out, HE3.out]
    clear c c' hfu
    go_enter Try.func66, Try.ntmps66
    go_wp2
    go_ret2
    exact ⟨rfl, H.out, Wr.refl _ _⟩
end Go.Proofs.Ytehjbhnlbjbhfaa.Rd
-- RdB
namespace Go.Proofs.Ytehjbhnlbjbhfaa.Rd
open Go Go.RowKit Go.Proofs.YtehjbhnlbjbhfaaW.PrintWords Go.Proofs.YtehjbhnlbjbhfaaW.PrintLast Go.Proofs.YtehjbhnlbjbhfaaW.PrintMore Go.Proofs.Ytehjbhnlbjbhfaa.Dk
set_option linter.unusedVariables false
set_option linter.unusedSimpArgs false
end Go.Proofs.Ytehjbhnlbjbhfaa.Rd
-- RdC
namespace Go.Proofs.Ytehjbhnlbjbhfaa.Rd
open Go Go.RowKit Go.Proofs.YtehjbhnlbjbhfaaW.PrintWords Go.Proofs.YtehjbhnlbjbhfaaW.PrintLast Go.Proofs.YtehjbhnlbjbhfaaW.PrintMore Go.Proofs.Ytehjbhnlbjbhfaa.Dk
set_option linter.unusedVariables false
set_option linter.unusedSimpArgs false
end Go.Proofs.Ytehjbhnlbjbhfaa.Rd
-- RdD
namespace Go.Proofs.Ytehjbhnlbjbhfaa.Rd
open Go Go.RowKit Go.Proofs.YtehjbhnlbjbhfaaW.PrintWords Go.Proofs.YtehjbhnlbjbhfaaW.PrintLast Go.Proofs.YtehjbhnlbjbhfaaW.PrintMore Go.Proofs.Ytehjbhnlbjbhfaa.Dk
open Go.Proofs.Ytehjbhnlbjbhfaa.PDiskBegins
set_option linter.unusedVariables false
set_option linter.unusedSimpArgs false
theorem IsX.drN {G : Nat → Prop} {x : Nat} {W : World} {s : DS} (h : IsX G W x s) (n : Nat) : IsX G (W.drewN n) x s := h.below (pw_below_drewN (Below.refl _ _) n)
theorem IsX.al {G : Nat → Prop} {x : Nat} {W : World} {s : DS} (h : IsX G W x s) (o : Obj) : IsX G (W.alloc o) x s := h.below (below_alloc (Below.refl _ _) o)
theorem IsX.ltg {G : Nat → Prop} {x : Nat} {W : World} {s : DS} (h : IsX G W x s) : x < W.heap.size := h.lt x h.gg
end Go.Proofs.Ytehjbhnlbjbhfaa.Rd
-- RdE
namespace Go.Proofs.Ytehjbhnlbjbhfaa.Rd
open Go Go.RowKit Go.Proofs.YtehjbhnlbjbhfaaW.PrintWords Go.Proofs.YtehjbhnlbjbhfaaW.PrintLast Go.Proofs.YtehjbhnlbjbhfaaW.PrintMore Go.Proofs.Ytehjbhnlbjbhfaa.Dk
open Go.Proofs.Ytehjbhnlbjbhfaa.PDiskBegins
set_option linter.unusedVariables false
set_option linter.unusedSimpArgs false
end Go.Proofs.Ytehjbhnlbjbhfaa.Rd
-- RdF
namespace Go.Proofs.Ytehjbhnlbjbhfaa.Rd
open Go Go.RowKit Go.Proofs.YtehjbhnlbjbhfaaW.PrintWords Go.Proofs.YtehjbhnlbjbhfaaW.PrintLast Go.Proofs.YtehjbhnlbjbhfaaW.PrintMore Go.Proofs.Ytehjbhnlbjbhfaa.Dk
open Go.Proofs.Ytehjbhnlbjbhfaa.PDiskBegins
set_option linter.unusedVariables false
set_option linter.unusedSimpArgs false
end Go.Proofs.Ytehjbhnlbjbhfaa.Rd
-- RdG
namespace Go.Proofs.Ytehjbhnlbjbhfaa.Rd
open Go Go.RowKit Go.Proofs.YtehjbhnlbjbhfaaW.PrintWords Go.Proofs.YtehjbhnlbjbhfaaW.PrintLast Go.Proofs.YtehjbhnlbjbhfaaW.PrintMore Go.Proofs.Ytehjbhnlbjbhfaa.Dk
open Go.Proofs.Ytehjbhnlbjbhfaa.PDiskBegins
set_option linter.unusedVariables false
set_option linter.unusedSimpArgs false
end Go.Proofs.Ytehjbhnlbjbhfaa.Rd
-- RdH
namespace Go.Proofs.Ytehjbhnlbjbhfaa.Rd
open Go Go.RowKit Go.Proofs.YtehjbhnlbjbhfaaW.PrintWords Go.Proofs.YtehjbhnlbjbhfaaW.PrintLast Go.Proofs.YtehjbhnlbjbhfaaW.PrintMore Go.Proofs.Ytehjbhnlbjbhfaa.Dk
open Go.Proofs.Ytehjbhnlbjbhfaa.PDiskBegins
set_option linter.unusedVariables false
set_option linter.unusedSimpArgs false
end Go.Proofs.Ytehjbhnlbjbhfaa.Rd
-- RdI
namespace Go.Proofs.Ytehjbhnlbjbhfaa.Rd
open Go Go.RowKit Go.Proofs.YtehjbhnlbjbhfaaW.PrintWords Go.Proofs.YtehjbhnlbjbhfaaW.PrintLast Go.Proofs.YtehjbhnlbjbhfaaW.PrintMore Go.Proofs.Ytehjbhnlbjbhfaa.Dk
open Go.Proofs.Ytehjbhnlbjbhfaa.PDiskBegins
set_option linter.unusedVariables false
end Go.Proofs.Ytehjbhnlbjbhfaa.Rd
-- WkTapeRefused
namespace Go.Proofs.Ytehjbhnlbjbhfaa.Wk
open Go Go.RowKit Go.Proofs.YtehjbhnlbjbhfaaW.PrintWords Go.Proofs.YtehjbhnlbjbhfaaW.PrintLast Go.Proofs.YtehjbhnlbjbhfaaW.PrintMore Go.Proofs.Ytehjbhnlbjbhfaa.Wire Go.Proofs.Ytehjbhnlbjbhfaa.Dk Go.Proofs.Ytehjbhnlbjbhfaa.Tp
open Go.Proofs.Ytehjbhnlbjbhfaa.PTapePlays
set_option linter.unusedVariables false
set_option linter.unusedSimpArgs false
set_option maxHeartbeats 16000000 in
set_option maxRecDepth 100000 in
theorem TapeRefused {W : World} (A0 : Option Addr) (cap0 : Nat) (l0 : List TD) (hl0 : l0.length ≤ cap0) (hC0 : k79.C W A0 l0.length l0) (hG0 : ∀ y ∈ l0, GTD y)
    (A1 : Option Addr) (cap1 : Nat) (l1 : List Int) (hl1 : l1.length ≤ cap1) (hC1 : (Kd.int .u8).C W A1 l1.length l1) (hG1 : ∀ y ∈ l1, (Lit.int .u8 y).wf = true)
    (A2 : Option Addr) (cap2 : Nat) (l2 : List (List Int)) (hl2 : l2.length ≤ cap2) (hC2 : KdB.C W A2 l2.length l2) (hG2 : ∀ d ∈ l2, ∀ y ∈ d, (Lit.int .u8 y).wf = true) :
    Calls Try.prog 8 #[.slice A0 l0.length cap0, .slice A1 l1.length cap1, .slice A2 l2.length cap2] W fun e w' => e = .returned (.bool true) ∧ Below W.heap.size W w' := by
  have hK : k79.K W ⟨0, 0, [], l2, []⟩ [.int .i64 0, .int .i64 0, .slice none 0 0, .slice A2 l2.length cap2, .slice none 0 0] := k79_mk W ⟨0, 0, [], l2, []⟩ (c2 := 0) (Nat.le_refl _) (Kd.C_nil _ _) hl2 hC2 (c4 := 0) (Nat.le_refl _) (Kd.C_nil _ _)
  have hn := blk_new W (.cells #[.int .i64 0, .int .i64 0, .slice none 0 0, .slice A2 l2.length cap2, .slice none 0 0] 79)
  have hbl := below_alloc (Below.refl W.heap.size W) (.cells #[.int .i64 0, .int .i64 0, .slice none 0 0, .slice A2 l2.length cap2, .slice none 0 0] 79)
  have hK1 := one_KT (fr := (0, 0)) (cs := [.int .i64 0, .int .i64 0, .slice none 0 0, .slice A2 l2.length cap2, .slice none 0 0]) hn (k79.K_below hbl hK)
  obtain ⟨r, hr, hsh⟩ := tshort2 l0 [⟨0, 0, [], l2, []⟩] A0 cap0 (some ⟨W.heap.size, 0, none⟩) 1 _ (Kd.C_below hC0 hbl) hl0 hK1 (Nat.le_refl _)
  have hs1 : (W.alloc (.cells #[.int .i64 0, .int .i64 0, .slice none 0 0, .slice A2 l2.length cap2, .slice none 0 0] 79)).heap.size = W.heap.size + 1 := by simp
  replace hsh := hsh.mono (R' := fun e w' => e = .returned (.bool r) ∧ Below W.heap.size W w') (fun e w' h => ⟨h.1, below_step hbl h.2⟩)
  rw [hs1] at hsh
  have HSH := Aside0.mk hsh
  have HRS := Aside0.mk (show r = true → (l0.length ≤ 60 ∧ ∀ x ∈ l0, TSmall x) ∧ 4 * l2.length ≤ 16384 ∧ ∀ d ∈ l2, d.length ≤ 16384 from fun e => ⟨(hr e).1, ((hr e).2 _ (List.mem_singleton.2 rfl)).many, ((hr e).2 _ (List.mem_singleton.2 rfl)).l⟩)
  have HC0 := Aside0.mk (And.intro hl0 hC0)
  have HC1 := Aside0.mk (And.intro hl1 hC1)
  have HC2 := Aside0.mk (And.intro hl2 hC2)
  have HS1 := Aside0.mk (bs_wf hG1)
  have HS2 := Aside0.mk (show ∀ d ∈ l2, Bs d from fun d hd => bs_wf (hG2 d hd))
  have HG0 := Aside0.mk hG0
  clear hl0 hC0 hG0 hl1 hC1 hG1 hl2 hC2 hG2 hr hsh hK hn hbl hK1 hs1
  cases r with
  | false =>
    go_enter Try.func8, Try.ntmps8
    go_wp2_with (fail)
    refine HSH.out.mono ?_
    rintro e w1 ⟨rfl, hB⟩
    have HB := Aside0.mk hB
    clear hB
    go_wp2_with (fail)
    refine (Tp.awake_calls _).mono ?_
    rintro e w2 ⟨rfl, hB2⟩
    have HB2 := Aside0.mk (below_step HB.out hB2)
    clear hB2
    go_wp2_with (fail)
    go_ret
    exact ⟨rfl, HB2.out⟩
  | true =>
    have HSM := Aside0.mk (HRS.out rfl)
    clear HRS
    go_enter Try.func8, Try.ntmps8
    go_wp2_with (fail)
    refine HSH.out.mono ?_
    rintro e w1 ⟨rfl, hB⟩
    have HB := Aside0.mk hB
    clear hB HSH
    by_cases c0 : (l1.length : Int) > 65536
    · have d0 : decide ((l1.length : Int) > 65536) = true := decide_eq_true c0
      have d1 : decide ((65536 : Int) < (l1.length : Int)) = true := decide_eq_true c0
      clear c0
      go_wp2_with (fail)
      refine (Tp.awake_calls _).mono ?_
      rintro e w2 ⟨rfl, hB2⟩
      have HB2 := Aside0.mk (below_step HB.out hB2)
      clear hB2
      go_wp2_with (fail)
      go_ret
      exact ⟨rfl, HB2.out⟩
    have d0 : decide ((l1.length : Int) > 65536) = false := decide_eq_false c0
    have d1 : decide ((65536 : Int) < (l1.length : Int)) = false := decide_eq_false c0
    have HLN := Aside0.mk (show l1.length ≤ 65536 by omega)
    clear c0
    go_wp2_with (fail)
    refine (begun_calls _).mono ?_
    rintro e w2 ⟨b, t, rfl, hb, ht, hD, hT, hB2⟩
    have HBW := Aside0.mk (show W.heap.size ≤ b ∧ W.heap.size ≤ t from ⟨Nat.le_trans HB.out.size hb, Nat.le_trans HB.out.size ht⟩)
    obtain ⟨G, hG⟩ : ∃ G : Nat → Prop, (fun k => k = b ∨ k = t) = G := ⟨_, rfl⟩
    rw [hG] at hD hT
    have HUG := Aside0.mk (show ∀ k, TG t b k → G k by rw [← hG]; rintro k (rfl | rfl); exact .inr rfl; exact .inl rfl)
    have HUW := Aside0.mk (show ∀ k, G k → W.heap.size ≤ k by rw [← hG]; have := HBW.out; intro k hk; omega)
    have HUGi := Aside0.mk (show ∀ k, G k → TG t b k by rw [← hG]; rintro k (rfl | rfl); exact .inr rfl; exact .inl rfl)
    have HD := Aside0.mk hD
    have HT := Aside0.mk hT
    have HB2 := Aside0.mk (below_step HB.out hB2)
    have HTK0 := Aside0.mk begun_tok
    have HOK0 := Aside0.mk tok0
    have HBS0 := Aside0.mk bs0_bsd
    have HLM := Aside0.mk (Kd.C_max HC0.out.2)
    clear hb ht hD hT hB2 hG HB
    go_wp2_with (fail)
    go_loopw [38] (fun v38 wr => ∃ (j : Nat) (x : TS) (s : DS), j ≤ l0.length ∧ v38 = .int .i64 (j : Int) ∧ Aside0 (Okk s) ∧ Aside0 (BsD s) ∧ Aside0 (TOk x s) ∧ Aside0 (IsD G wr b s) ∧ Aside0 (IsT G wr t b x) ∧ Aside0 (Below W.heap.size W wr)) (fun v38 _ => (l0.length - intOf v38).toNat)
    case atStart => exact ⟨0, bx, bs0, by omega, rfl, HOK0, HBS0, HTK0, HD, HT, HB2⟩
    case round =>
      clear HD HT HB2 HOK0 HBS0 HTK0
      obtain ⟨j, x, s, hj, rfl, HOK, HSD, HTK, HD, HT, HB⟩ := hrel
      by_cases hlt : j < l0.length
      · obtain ⟨ad, A, ca, A3, c3, B, cb, e1, h0, h1, h2, h3, h4, lA, gA, l3, g3, lB, gB⟩ := at_T79 HC0.out.2 (j : Int) (by omega) (by omega)
        cases e1
        rw [Int.toNat_natCast] at h0 h1 h2 h3 h4
        have HJL := Aside0.mk hlt
        have hg := HG0.out _ (rdT_mem hlt)
        have hsm := HSM.out.1.2 _ (rdT_mem hlt)
        generalize rd_T79 l0 (j : Int) = el at *
        obtain ⟨op, n, bs, ls, ks⟩ := el
        simp only at h0 h1 h2 h3 h4 lA gA l3 g3 lB gB
        have HSB := Aside0.mk (show Bs bs from bs_wf hg.2.2.1)
        have HSL := Aside0.mk (show ∀ d ∈ ls, Bs d from fun d hd => bs_wf (hg.2.2.2.1 d hd))
        have HBLN := Aside0.mk (show bs.length ≤ 16384 from hsm.b)
        have HLL := Aside0.mk (show 4 * ls.length ≤ 16384 ∧ ∀ d ∈ ls, d.length ≤ 16384 from ⟨hsm.many, hsm.l⟩)
        have HRB0 := Aside0.mk ((Rw.came (G := G) gA lA HUW.out).below HB.out)
        have HRL0 := Aside0.mk ((Rs.came (G := G) g3 l3 HUW.out).below HB.out)
        replace h0 := (HB.out.cell (World.block_lt_of_cell? W _ h0)).trans h0
        replace h1 := (HB.out.cell (World.block_lt_of_cell? W _ h1)).trans h1
        replace h2 := (HB.out.cell (World.block_lt_of_cell? W _ h2)).trans h2
        replace h3 := (HB.out.cell (World.block_lt_of_cell? W _ h3)).trans h3
        replace h4 := (HB.out.cell (World.block_lt_of_cell? W _ h4)).trans h4
        clear gA lA g3 l3 gB lB hg hsm
        obtain ⟨k, hk⟩ : ∃ k, wr.heap.size = k := ⟨_, rfl⟩
        have HKB := Aside0.mk (show (wr.alloc (.cells #[.int .i64 op, .int .i64 n, .slice A bs.length ca, .slice A3 ls.length c3, .slice B ks.length cb] 79)).heap[k]? = some (.cells #[.int .i64 op, .int .i64 n, .slice A bs.length ca, .slice A3 ls.length c3, .slice B ks.length cb] 79 (0, 0)) by rw [← hk]; exact blk_new _ _)
        have HWB := Aside0.mk (below_alloc (Below.refl wr.heap.size wr) (.cells #[.int .i64 op, .int .i64 n, .slice A bs.length ca, .slice A3 ls.length c3, .slice B ks.length cb] 79))
        by_cases co : Go.bits .and .i64 op 7 = 5
        · have dd : decide (Go.bits .and .i64 op 7 = 5) = true := decide_eq_true co
          have de : (Go.bits .and .i64 op 7 == 5) = true := by simpa using co
          clear co
          have hc0 := (blk_cell HKB.out 0).trans (show _ = some (Value.int .i64 op) from rfl)
          have hc2 := (blk_cell HKB.out 2).trans (show _ = some (Value.slice A bs.length ca) from rfl)
          have hc3 := (blk_cell HKB.out 3).trans (show _ = some (Value.slice A3 ls.length c3) from rfl)
          have HSO := Aside0.mk (HTK.out.saveOk HSB.out HSL.out (by have := HBLN.out; omega) HLL.out.1 HLL.out.2)
          go_wp2_with (fail)
          refine (Save_calls G t b x s _ _ bs ls _ (HT.out.below HWB.out) (HD.out.below HWB.out) HOK.out (HRB0.out.below HWB.out) (HRL0.out.below HWB.out) HSO.out).mono ?_
          have HOK2 := Aside0.mk (saveP_okk HOK.out x bs ls)
          have HSD2 := Aside0.mk (saveP_bsd HSD.out x HSB.out HSL.out (by have := HTK.out.wrote.gen; omega) (show ls.length ≤ 1099511627776 by have := HLL.out.1; omega))
          have HTK2 := Aside0.mk (HTK.out.save HSB.out HSL.out (by have := HLL.out.1; omega)).1
          rintro e w5 ⟨rfl, hT, hD, hW⟩
          have HT2 := Aside0.mk hT
          have HD2 := Aside0.mk hD
          have HB2 := Aside0.mk (hW.below (below_step HB.out HWB.out) (fun k hk => HUW.out k (HUG.out k hk)))
          clear hT hD hW HT HD HKB HWB hk HRB0 HRL0 h0 h1 h2 h3 h4 hc0 hc2 hc3
          generalize saveP x s bs ls = q at *
          go_wp2_with (fail)
          go_roundw
          case rel => exact ⟨j + 1, q.1, q.2.1, by have := HJL.out; omega, by rw [wrap_succ HJL.out HLM.out], HOK2, HSD2, HTK2, HD2, HT2, HB2⟩
          case measure =>
            rw [wrap_succ HJL.out HLM.out]
            have := HJL.out
            simp [intOf]; omega
        · have dd : decide (Go.bits .and .i64 op 7 = 5) = false := decide_eq_false co
          have de : (Go.bits .and .i64 op 7 == 5) = false := by simpa using co
          clear co
          have hc0 := (blk_cell HKB.out 0).trans (show _ = some (Value.int .i64 op) from rfl)
          have hc2 := (blk_cell HKB.out 2).trans (show _ = some (Value.slice A bs.length ca) from rfl)
          have HMN := Aside0.mk (HTK.out.many HOK.out.1)
          go_wp2_with (fail)
          refine (TPut_calls G t b x s _ bs _ (HT.out.below HWB.out) (HD.out.below HWB.out) HOK.out (HRB0.out.below HWB.out) HSB.out (by have := HBLN.out; omega) (by have := HMN.out; omega)).mono ?_
          have HOK2 := Aside0.mk (putP_okk HOK.out x bs)
          have HSD2 := Aside0.mk (putP_bsd HSD.out x HSB.out)
          have HTK2 := Aside0.mk (HTK.out.put HSB.out).1
          rintro e w5 ⟨rfl, hT, hD, hW⟩
          have HT2 := Aside0.mk hT
          have HD2 := Aside0.mk hD
          have HB2 := Aside0.mk (hW.below (below_step HB.out HWB.out) (fun k hk => HUW.out k (HUG.out k hk)))
          clear hT hD hW HT HD HKB HWB hk HRB0 HRL0 h0 h1 h2 h3 h4 hc0 hc2
          generalize putP x s bs = q at *
          go_wp2_with (fail)
          go_roundw
          case rel => exact ⟨j + 1, q.1, q.2.1, by have := HJL.out; omega, by rw [wrap_succ HJL.out HLM.out], HOK2, HSD2, HTK2, HD2, HT2, HB2⟩
          case measure =>
            rw [wrap_succ HJL.out HLM.out]
            have := HJL.out
            simp [intOf]; omega
      · obtain rfl : j = l0.length := by omega
        generalize wr = wo at *
        go_wp2_with (fail)
        refine (TSync_calls G t b x s _ HT.out HD.out HOK.out).mono ?_
        have HOK1 := Aside0.mk (syncT_okk HOK.out x)
        have HTK1 := Aside0.mk HTK.out.sync.1
        have HSD1 := Aside0.mk (syncT_bsd HSD.out x)
        rintro e w2 ⟨rfl, hT, hD, hW⟩
        have HT2 := Aside0.mk hT
        have HD2 := Aside0.mk hD
        have HB2 := Aside0.mk (hW.below HB.out (fun k hk => HUW.out k (HUG.out k hk)))
        clear hT hD hW HT HD HB HOK HTK
        obtain ⟨⟨x1, s1, e1⟩, hq⟩ : ∃ q, syncT x s = q := ⟨_, rfl⟩
        rw [hq] at HT2 HD2 HOK1 HTK1 HSD1 ⊢
        clear hq
        have HMN := Aside0.mk (HTK1.out.many HOK1.out.1)
        have HBS := Aside0.mk (show x1.r.base.length ≤ 8176 from HTK1.out.wrote.base)
        have HRL := Aside0.mk (show ∀ d ∈ x1.r.l, d.length < 1000000000 from fun d hd => by have := (HTK1.out.wrote.bl d hd).2; omega)
        go_wp2_with (fail)
        refine (Base_calls G t b x1 _ HT2.out (by have := HBS.out; omega)).mono ?_
        rintro e w3 ⟨v, rfl, hR, hb⟩
        have HV := Aside0.mk (show Rw G .u8 w3 v x1.r.base from Rw.of_R hR HD2.out.lt)
        have HT3 := Aside0.mk (HT2.out.below hb)
        have HD3 := Aside0.mk (HD2.out.below hb)
        have HB3 := Aside0.mk (below_step HB2.out hb)
        clear hR hb HT2 HD2 HB2
        go_wp2_with (fail)
        refine (records_calls G t b x1 _ HT3.out (by have := HMN.out; omega) HRL.out).mono ?_
        rintro e w4 ⟨u, rfl, hR, hb⟩
        have HU := Aside0.mk (show St G w4 u (x1.r.l.map strOfNums) from St.of_R hR HD3.out.lt)
        have HV4 := Aside0.mk (show Rw G .u8 w4 v x1.r.base from Rw.below HV.out hb)
        have HT4 := Aside0.mk (HT3.out.below hb)
        have HD4 := Aside0.mk (HD3.out.below hb)
        have HB4 := Aside0.mk (below_step HB3.out hb)
        clear hR hb HT3 HD3 HB3 HV
        have HR1 := Aside0.mk (show Rw G .u8 w4 (.slice A1 l1.length cap1) l1 from (Rw.came (G := G) HC1.out.2 HC1.out.1 HUW.out).below HB4.out)
        have HR2 := Aside0.mk (show Rs G w4 (.slice A2 l2.length cap2) l2 from (Rs.came (G := G) HC2.out.2 HC2.out.1 HUW.out).below HB4.out)
        go_wp2_with (fail)
        refine (TPut_calls G t b x1 s1 _ l1 _ HT4.out HD4.out HOK1.out HR1.out HS1.out (by have := HLN.out; omega) (by have := HMN.out; omega)).mono ?_
        have HPU := HTK1.out.put HS1.out
        obtain ⟨⟨x2, s2, e2⟩, hq⟩ : ∃ q, putP x1 s1 l1 = q := ⟨_, rfl⟩
        rw [hq] at HPU ⊢
        rintro e w5 ⟨rfl, hT, hD, hW⟩
        have HB5 := Aside0.mk (hW.below HB4.out (fun k hk => HUW.out k (HUG.out k hk)))
        by_cases ce : e2 = 0
        · subst ce
          have HBQ := HB5
          clear hT hD hW HPU hq
          go_wp2_with (fail)
          refine (Tp.awake_calls _).mono ?_
          rintro e w9 ⟨rfl, hB9⟩
          have HB9 := Aside0.mk (below_step HBQ.out hB9)
          clear hB9
          go_wp2_with (fail)
          go_ret
          exact ⟨rfl, HB9.out⟩
        · have hx := HPU.2 ce
          injection hx with hx1 hx2
          injection hx2 with hx2 hx3
          subst hx1 hx2
          have de : (e2 == (0 : Int)) = false := by simpa using ce
          have dn : (e2 != (0 : Int)) = true := by simpa using ce
          have HT5 := Aside0.mk hT
          have HD5 := Aside0.mk hD
          have HV5 := Aside0.mk (show Rw G .u8 w5 v x2.r.base from Rw.ws HV4.out hW HUG.out)
          have HU5 := Aside0.mk (show St G w5 u (x2.r.l.map strOfNums) from HU.out.ws hW HUG.out)
          have HR15 := Aside0.mk (show Rw G .u8 w5 (.slice A1 l1.length cap1) l1 from Rw.ws HR1.out hW HUG.out)
          have HR25 := Aside0.mk (show Rs G w5 (.slice A2 l2.length cap2) l2 from HR2.out.ws hW HUG.out)
          have HSO := Aside0.mk (HTK1.out.saveOk HS1.out HS2.out (by have := HLN.out; omega) HSM.out.2.1 HSM.out.2.2)
          have HSP := Aside0.mk (HTK1.out.save HS1.out HS2.out (by have := HSM.out.2.1; omega))
          have HOKS := Aside0.mk (saveP_okk HOK1.out x2 l1 l2)
          have HBD := Aside0.mk (saveP_bsd HSD1.out x2 HS1.out HS2.out (by have := HTK1.out.wrote.gen; omega) (show l2.length ≤ 1099511627776 by have := HSM.out.2.1; omega))
          clear hT hD hW HPU hq ce HT4 HD4 HB4 HV4 HU HR1 HR2
          go_wp2_with (fail)
          refine (Save_calls G t b x2 s2 _ _ l1 l2 _ HT5.out HD5.out HOK1.out HR15.out HR25.out HSO.out).mono ?_
          obtain ⟨⟨x3, s3, e3⟩, hq⟩ : ∃ q, saveP x2 s2 l1 l2 = q := ⟨_, rfl⟩
          rw [hq] at HSP HOKS HBD ⊢
          rintro e w6 ⟨rfl, hT, hD, hW⟩
          have HB6 := Aside0.mk (hW.below HB5.out (fun k hk => HUW.out k (HUG.out k hk)))
          by_cases ce : e3 = 0
          · subst ce
            have HBQ := HB6
            clear hT hD hW hq
            go_wp2_with (fail)
            refine (Tp.awake_calls _).mono ?_
            rintro e w9 ⟨rfl, hB9⟩
            have HB9 := Aside0.mk (below_step HBQ.out hB9)
            clear hB9
            go_wp2_with (fail)
            go_ret
            exact ⟨rfl, HB9.out⟩
          · have hx := HSP.out.2 ce
            simp only at hx
            subst hx
            have de : (e3 == (0 : Int)) = false := by simpa using ce
            have dn : (e3 != (0 : Int)) = true := by simpa using ce
            have HT6 := Aside0.mk hT
            have HD6 := Aside0.mk hD
            have HTK3 := Aside0.mk (show TOk x3 s3 from HSP.out.1)
            have HV6 := Aside0.mk (show Rw G .u8 w6 v x3.r.base from Rw.ws HV5.out hW HUG.out)
            have HU6 := Aside0.mk (show St G w6 u (x3.r.l.map strOfNums) from HU5.out.ws hW HUG.out)
            clear hT hD hW hq ce HT5 HD5 HB5 HV5 HU5 HR15 HR25 HSP HTK1 HOK1
            go_wp2_with (fail)
            refine (DClone_calls _ b s3 _ HD6.out).mono ?_
            rintro e w7 ⟨b2, rfl, hb2, hb3, hB7, hI7⟩
            have HG7 := Aside0.mk (And.intro hb2 hb3)
            have HD7 := Aside0.mk hI7
            have HB7 := Aside0.mk (below_step HB6.out hB7)
            have hgr : ∀ k, k < w6.heap.size → (G k ∨ k = b2) → G k := fun k hk hG => hG.elim id (fun e => by omega)
            have HT7 := Aside0.mk (HT6.out.wsmore (P := fun _ => False) (b := b2) (Ws.of_below hB7) (fun _ h => h.elim) (fun h => h) hb2)
            have HV7 := Aside0.mk (show Rw (fun k => G k ∨ k = b2) .u8 w7 v x3.r.base from Rw.below (Rw.grow HV6.out hgr) hB7)
            have HU7 := Aside0.mk (show St (fun k => G k ∨ k = b2) w7 u (x3.r.l.map strOfNums) from (HU6.out.grow hgr).below hB7)
            have HNE := Aside0.mk (show ¬ t = b2 by have := HT6.out.lt; omega)
            have HWB2 := Aside0.mk (show W.heap.size ≤ b2 by have := HB6.out.size; omega)
            clear hb2 hb3 hB7 hI7 HT6 HD6 HB6 HV6 HU6 hgr
            go_wp2_with (fail)
            refine (Open_calls _ b2 s3 _ HD7.out HOKS.out HBD.out).mono ?_
            rw [HTK3.out.opens]
            rintro e w8 ⟨p, rfl, hD8, hW8, hp8, hT8⟩
            subst hp8
            obtain ⟨t2, ht2⟩ : ∃ t2, w7.heap.size = t2 := ⟨_, rfl⟩
            rw [ht2] at hD8 hT8 ⊢
            have HT8 := Aside0.mk (HT7.out.ws hW8 (fun k e => .inr e) HNE.out)
            have HV8 := Aside0.mk (show Rw (fun k => G k ∨ k = b2) .u8 w8 v x3.r.base from Rw.ws HV7.out hW8 (fun k e => .inr e))
            have HU8 := Aside0.mk (show St (fun k => G k ∨ k = b2) w8 u (x3.r.l.map strOfNums) from HU7.out.ws hW8 (fun k e => .inr e))
            have HX8 := Aside0.mk hT8
            have HB8 := Aside0.mk (hW8.below HB7.out (fun k e => e ▸ HWB2.out))
            clear hD8 hT8 hW8 HT7 HV7 HU7 HB7 HD7 ht2
            obtain ⟨V, cV, rfl, _, _⟩ := Rw.slice HV8.out
            obtain ⟨U, cU, rfl, _, _⟩ := HU8.out.slice
            have HLE := Aside0.mk (show (x3.r.l.map strOfNums).length = x3.r.l.length by simp)
            go_wp2_with (fail)
            refine (Base_calls _ t b x3 _ HT8.out (by have := HBS.out; omega)).mono ?_
            rintro e w9 ⟨y, rfl, hR, hb⟩
            obtain ⟨Y, cY, rfl⟩ := Kd.R_slice hR
            have HY := Aside0.mk (Kd.R_reads' hR)
            have HB9 := Aside0.mk (below_step HB8.out hb)
            have HT9 := Aside0.mk (HT8.out.below hb)
            have HX9 := Aside0.mk (HX8.out.below hb)
            have HV9 := Aside0.mk (Rw.below HV8.out hb)
            have HU9 := Aside0.mk (HU8.out.below hb)
            clear hR hb HB8 HT8 HX8 HV8 HU8
            go_wp2_with (fail)
            refine (bytes_same Y cY V cV _ _ HY.out.2.2 HY.out.2.1 (Kd.V_reads' HV9.out).2.2 (Kd.V_reads' HV9.out).2.1).mono ?_
            rintro e w10 ⟨rfl, ⟨n10, rfl⟩⟩
            go_wp2_with (fail)
            refine (records_calls _ t b x3 _ (HT9.out.drN n10) (by have := HMN.out; omega) HRL.out).mono ?_
            rintro e w11 ⟨y, rfl, hR, hb⟩
            obtain ⟨Z, cZ, rfl⟩ := Kd.R_slice hR
            have HZ := Aside0.mk (Kd.R_reads' hR)
            have hb := below_step (pw_below_drewN (Below.refl w9.heap.size w9) n10) hb
            have HB11 := Aside0.mk (below_step HB9.out hb)
            have HX11 := Aside0.mk (HX9.out.below hb)
            have HV11 := Aside0.mk (Rw.below HV9.out hb)
            have HU11 := Aside0.mk (HU9.out.below hb)
            clear hR hb HB9 HT9 HX9 HV9 HU9 HY
            go_wp2_with (fail)
            have HEQ := Aside0.mk (strs_calls Z cZ _ U cU _ _ HZ.out.2.2 HZ.out.2.1 (Kd.V_reads' HU11.out).2.2 (Kd.V_reads' HU11.out).2.1)
            rw [eqSt_self, HLE.out] at HEQ
            refine HEQ.out.mono ?_
            rintro e w12 ⟨rfl, ⟨n12, rfl⟩⟩
            go_wp2_with (fail)
            refine (Base_calls _ t2 b2 _ _ (HX11.out.drN n12) (by have := HBS.out; show x3.r.base.length < _; omega)).mono ?_
            rintro e w13 ⟨y, rfl, hR, hb⟩
            obtain ⟨Y, cY, rfl⟩ := Kd.R_slice hR
            have HY := Aside0.mk (Kd.R_reads' hR)
            have hb := below_step (pw_below_drewN (Below.refl w11.heap.size w11) n12) hb
            have HB13 := Aside0.mk (below_step HB11.out hb)
            have HX13 := Aside0.mk (HX11.out.below hb)
            have HV13 := Aside0.mk (Rw.below HV11.out hb)
            have HU13 := Aside0.mk (HU11.out.below hb)
            clear hR hb HB11 HX11 HV11 HU11 HZ HEQ
            go_wp2_with (fail)
            refine (bytes_same Y cY V cV _ _ HY.out.2.2 HY.out.2.1 (Kd.V_reads' HV13.out).2.2 (Kd.V_reads' HV13.out).2.1).mono ?_
            rintro e w14 ⟨rfl, ⟨n14, rfl⟩⟩
            go_wp2_with (fail)
            refine (records_calls _ t2 b2 _ _ (HX13.out.drN n14) (by have := HMN.out; show x3.r.l.length < _; omega) HRL.out).mono ?_
            rintro e w15 ⟨y, rfl, hR, hb⟩
            obtain ⟨Z, cZ, rfl⟩ := Kd.R_slice hR
            have HZ := Aside0.mk (Kd.R_reads' hR)
            have hb := below_step (pw_below_drewN (Below.refl w13.heap.size w13) n14) hb
            have HB15 := Aside0.mk (below_step HB13.out hb)
            have HU15 := Aside0.mk (HU13.out.below hb)
            clear hR hb HB13 HX13 HV13 HU13 HY
            go_wp2_with (fail)
            have HEQ := Aside0.mk (strs_calls Z cZ _ U cU _ _ HZ.out.2.2 HZ.out.2.1 (Kd.V_reads' HU15.out).2.2 (Kd.V_reads' HU15.out).2.1)
            rw [eqSt_self, HLE.out] at HEQ
            refine HEQ.out.mono ?_
            rintro e w16 ⟨rfl, ⟨n16, rfl⟩⟩
            go_wp2_with (fail)
            refine (Tp.awake_calls _).mono ?_
            rintro e w17 ⟨rfl, hb⟩
            have HB17 := Aside0.mk (below_step (pw_below_drewN HB15.out n16) hb)
            clear hb
            go_wp2_with (fail)
            go_ret
            exact ⟨rfl, HB17.out⟩
end Go.Proofs.Ytehjbhnlbjbhfaa.Wk
-- WSized
namespace Go.Proofs.YtehjbhnlbjbhfaaW.PrintWords
open Go.ChangeShapes Go.WideShapes
end Go.Proofs.YtehjbhnlbjbhfaaW.PrintWords
-- LawTapeRefused
namespace Go.Proofs.Ytehjbhnlbjbhfaa.tapeRefused
open Go.ChangeShapes Go.WideShapes Go.ChangeAt Go.RowKit
open Go.ChangeMaps (open_string shut_string)
set_option linter.unusedVariables false
theorem own : ownKnob Try.prog.godebug = none := by kernel_rfl
theorem laidOut : laidOutB Try.prog = true := by kernel_rfl
set_option maxRecDepth 100000 in
theorem lifted (os : Os) (started : os.Started) (H : Type) (enc : TypeId × Value → H) :
    ReturnsInHanded {} Try.checked os 8 .any (Rows.tapeRefusedSpec.pre6 enc Try.prog Try.f8 Rows.tapeRefusedRow.domain false) (Rows.tapeRefusedSpec.post enc Try.prog Try.f8 false true false false) := by
  refine returnsInHanded_of_change_sized (C := Try.checked) own started (by kernel_rfl) Try.func8
    (ChangeSpec.witness6 (enc := enc) (C := Try.checked) false ⟨#[], #[.slice none 0 0, .slice none 0 0, .slice none 0 0], []⟩ 8 (by kernel_rfl) (by kernel_rfl) (by kernel_rfl) (by kernel_rfl)) ?_
  intro W base args ds gs before hval0 hW hcnd hsz0 _
  have hval : ∀ (j : Nat) t v, Try.f8.params[j]? = some t → args[j]? = some v → Value.okWide Try.prog W .any base t v := hval0
  have hW' := hW
  obtain ⟨p, q, hA0, hV, rfl, hfz, hnd⟩ := hW
  have hA : DataW.TrodAll enc Try.prog W 0 (fun _ => true) true Try.f8.params.toList args.toList ds p := hA0
  rw [Try.params8] at hA hval
  obtain ⟨v0, vs0, d0, ds0, p0, q0, hargs, rfl, rfl, h0, r0⟩ := trodAll_cons hA
  obtain ⟨v1, vs1, d1, ds1, p1, q1, rfl, rfl, rfl, h1, r1⟩ := trodAll_cons r0
  obtain ⟨v2, vs2, d2, ds2, p2, q2, rfl, rfl, rfl, h2, r2⟩ := trodAll_cons r1
  obtain ⟨rfl, rfl, rfl⟩ := trodAll_nil r2
  obtain rfl : args = #[v0, v1, v2] := by cases args; simp_all
  obtain ⟨rfl, rfl⟩ := trodVars_none hV
  have k0 := h0
  have lt0 : ∀ x ∈ p0, x.block < W.heap.size := by obtain ⟨m, hm⟩ := k0; exact DataW.trod_lt m _ _ _ hm
  obtain ⟨a0, cap0, l0, rfl, hl0, hC0, hG0, _⟩ := Op.open_param Try.underlying75 (Tp.opensTD) h0 (okWide_slice Try.underlying75 (hval 0 75 v0 rfl rfl))
  have k1 := h1
  have lt1 : ∀ x ∈ p1, x.block < W.heap.size := by obtain ⟨m, hm⟩ := k1; exact DataW.trod_lt m _ _ _ hm
  obtain ⟨a1, cap1, l1, rfl, hl1, hC1, hG1, _⟩ := Op.open_param Try.underlying32 (Op.opens_int Try.underlying5 (by kernel_rfl)) h1 (okWide_slice Try.underlying32 (hval 1 32 v1 rfl rfl))
  have k2 := h2
  have lt2 : ∀ x ∈ p2, x.block < W.heap.size := by obtain ⟨m, hm⟩ := k2; exact DataW.trod_lt m _ _ _ hm
  obtain ⟨a2, cap2, l2, rfl, hl2, hC2, hG2, _⟩ := Op.open_param Try.underlying46 (Op.opens_slice Try.underlying32 (by kernel_rfl) (Op.opens_int Try.underlying5 (by kernel_rfl))) h2 (okWide_slice Try.underlying46 (hval 2 46 v2 rfl rfl))
  clear hA0 hval0 hsz0
  refine (Wk.TapeRefused a0 cap0 l0 hl0 hC0 hG0 a1 cap1 l1 hl1 hC1 hG1 a2 cap2 l2 hl2 hC2 hG2).mono fun e W' ⟨he, bel⟩ => ?_
  subst he
  exact ⟨_, rfl, _, _, _, [], _, [], hW', trodAll_mk1 (shut_bool Try.underlying4 _), (trodAll_cons_mk (Below.trod laidOut (by kernel_rfl) (of_decide_eq_true (by kernel_rfl)) k0 bel lt0) (trodAll_cons_mk (Below.trod laidOut (by kernel_rfl) (of_decide_eq_true (by kernel_rfl)) k1 bel lt1) (trodAll_cons_mk (Below.trod laidOut (by kernel_rfl) (of_decide_eq_true (by kernel_rfl)) k2 bel lt2) trodAll_mk0))), rfl, bel.frame _, fun h => by cases h⟩
theorem over : Rows.tapeRefusedRow.holds Try.pinned (OpenSpec.ofChange Rows.tapeRefusedSpec) :=
  OpenClaim.holds_of_wide 8 Try.f8 rfl rfl rfl rfl rfl rfl rfl ⟨rfl, rfl, rfl, rfl, rfl⟩ rfl rfl rfl rfl rfl (by kernel_rfl) Try.func8 (by kernel_rfl)
    (of_decide_eq_true (by kernel_rfl)) (by unfold Func.isWrapper; first | (rw [if_pos (by decide +kernel)]; kernel_rfl) | (rw [if_neg (by decide +kernel)]; exact ⟨rfl, rfl⟩))
    (fun os started H enc _ => lifted os started H enc)
theorem proved : Rows.TapeRefusedSaid := over
#print axioms proved
end Go.Proofs.Ytehjbhnlbjbhfaa.tapeRefused
namespace Go.Proofs.Ytehjbhnlbjbhfaa
theorem tapeRefused_holds : Rows.TapeRefusedSaid := tapeRefused.proved
end Go.Proofs.Ytehjbhnlbjbhfaa
