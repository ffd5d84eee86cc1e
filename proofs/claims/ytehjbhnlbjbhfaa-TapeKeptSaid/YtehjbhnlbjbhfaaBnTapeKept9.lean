/- Texts that the row of LawTapeKept rests on, part 9 of 12: contracts of the functions, their walks, plain laws. -/
import Derived.Test.YtehjbhnlbjbhfaaBnTapeKept8
-- TpL
namespace Go.Proofs.Ytehjbhnlbjbhfaa.Tp
open Go Go.RowKit Go.Proofs.YtehjbhnlbjbhfaaW.PrintWords Go.Proofs.YtehjbhnlbjbhfaaW.PrintLast Go.Proofs.YtehjbhnlbjbhfaaW.PrintMore Go.Proofs.Ytehjbhnlbjbhfaa.Wire Go.Proofs.Ytehjbhnlbjbhfaa.Wk Go.Proofs.Ytehjbhnlbjbhfaa.Dk
set_option linter.unusedVariables false
set_option linter.unusedSimpArgs false
def Opened (G : Nat → Prop) (w : World) (t g : Nat) (r : Option TS × DS × Int) (p : Value) (w' : World) : Prop :=
  IsD (fun k => G k ∨ k = t) w' g r.2.1 ∧ Ws (fun b => b = g) w w' ∧ match r.1 with
    | none => p = .pointer none
    | some x => p = .pointer (some ⟨t, 0, none⟩) ∧ IsT (fun k => G k ∨ k = t) w' t g x
set_option maxHeartbeats 8000000 in
set_option maxRecDepth 100000 in
theorem Open_calls (G : Nat → Prop) (g : Nat) (s : DS) (w : World) (h : IsD G w g s) (hok : Okk s) (hb : BsD s) :
    Calls Try.prog 30 #[.pointer (some ⟨g, 0, none⟩)] w fun e w' => ∃ p, e = .returned (.tuple #[p, .int .i64 (openT s).2.2]) ∧ Opened G w w.heap.size g (openT s) p w' := by
  have HOK := Aside0.mk hok
  have HBS := Aside0.mk hb
  have HGT := Aside0.mk h.ltg
  obtain ⟨r, hr⟩ : ∃ r, openT s = r := ⟨_, rfl⟩
  rw [hr]
  have HR := Aside0.mk hr
  obtain ⟨t, ht⟩ : ∃ t, w.heap.size = t := ⟨_, rfl⟩
  have HTT := Aside0.mk ht
  rw [ht]
  have hbl := below_alloc (Below.refl w.heap.size w) (.cells (tapeCells ⟨noReel, 1, 0⟩ (.slice none 0 0) (.slice none 0 0) g) 50)
  have hnew := blk_new w (.cells (tapeCells ⟨noReel, 1, 0⟩ (.slice none 0 0) (.slice none 0 0) g) 50)
  rw [ht] at hnew
  have H0 := Aside0.mk (show OS G w t g s 0 (w.alloc (.cells (tapeCells ⟨noReel, 1, 0⟩ (.slice none 0 0) (.slice none 0 0) g) 50)) from
    ⟨h.more (by omega) (by simp; omega) hbl, ⟨.inr rfl, _, _, hnew, Rw.nil _ _ _, Rs.nil _ _⟩, hbl⟩)
  clear hr h hok hb hbl hnew
  go_enter Try.func30, Try.ntmps30
  go_wp2
  go_loopg [5, 6] 2 (fun fu v5 v6 wr => ∃ f : Nat, f + fu = 2 ∧ v5 = .bool (pk s f).2 ∧ v6 = .int .i64 (f : Int) ∧ Aside0 (OS G w t g s f wr) ∧ Aside0 (0 < f → ableP s 0 = 0))
  case atStart => exact ⟨0, rfl, rfl, rfl, H0, ⟨fun h => absurd h (by decide)⟩⟩
  case round =>
    obtain ⟨f, hff, rfl, rfl, H, HA⟩ := hrel
    clear H0
    have HFF := Aside0.mk hff
    by_cases hlt : f < 2
    · have e1 : decide ((f : Int) ≤ 1) = true := decide_eq_true (by omega)
      have e1n : decide (f ≤ 1) = true := decide_eq_true (by omega)
      have HLT := Aside0.mk hlt
      have HAB := Aside0.mk (able01 s f (by omega))
      by_cases ca : ableP s 0 = 0
      rotate_left
      · have HRD := Aside0.mk (show readP s (f : Int) = ([], ableP s 0) by unfold readP; rw [HAB.out, if_pos ca])
        have HP := Aside0.mk (show openT s = (none, s, ableP s 0) by unfold openT; rw [if_pos ca])
        have d1 : (ableP s 0 != (0 : Int)) = true := by simpa using ca
        have d2 : (ableP s 0 == (0 : Int)) = false := by simpa using ca
        clear ca hlt hff
        generalize ableP s 0 = er at *
        go_wp2_with (fail)
        refine (Read_calls _ g s (f : Int) _ H.out.1 HOK.out.1).mono ?_
        rw [HRD.out]
        rintro e w2 ⟨v, rfl, hR, hB⟩
        have HB := Aside0.mk (below_step H.out.2.2 hB)
        have HD2 := Aside0.mk (H.out.1.below hB)
        clear hR hB
        go_wp2
        go_ret2
        rw [← HR.out, HP.out]
        exact ⟨_, rfl, HD2.out, Ws.of_below HB.out, rfl⟩
      · have HRD := Aside0.mk (show readP s (f : Int) = ((fl s f).seen, 0) by unfold readP; rw [HAB.out, if_neg (fun h => h ca), Int.toNat_natCast])
        have HSL := Aside0.mk (show (fl s f).seen.length < 1000000000 by have := HOK.out.1.seen_le (i := f) (by omega); omega)
        have HSB := Aside0.mk (HBS.out.fl f).1
        have HNX := Aside0.mk (show pk s (f + 1) = if (pk s f).1.r.gen < (readT (Dk.fl s f).seen).1.gen then (⟨(readT (Dk.fl s f).seen).1, f, 0⟩, (readT (Dk.fl s f).seen).2) else pk s f from rfl)
        have HKE := Aside0.mk (pk_rok HBS.out HOK.out.1 f (by omega)).2
        have HCA := Aside0.mk ca
        clear ca hlt hff
        generalize (fl s f).seen = sn at *
        obtain ⟨⟨⟨qg, qb, ql⟩, more⟩, hq⟩ : ∃ q, readT sn = q := ⟨_, rfl⟩
        have HQ := Aside0.mk hq
        rw [hq] at HNX
        clear hq
        go_wp2_with (fail)
        refine (Read_calls _ g s (f : Int) _ H.out.1 HOK.out.1).mono ?_
        rw [HRD.out]
        rintro e w2 ⟨v, rfl, hR, hB⟩
        obtain ⟨A, c, rfl⟩ := Kd.R_slice hR
        have HC := Aside0.mk (Kd.R_reads' hR)
        have HD2 := Aside0.mk (H.out.1.below hB)
        have HT2 := Aside0.mk (H.out.2.1.below hB)
        have HB2 := Aside0.mk (below_step H.out.2.2 hB)
        clear hR hB H
        go_wp2_with (fail)
        refine (read_calls A c sn _ HC.out.2.2 HC.out.2.1 HSB.out HSL.out).mono ?_
        rw [HQ.out]
        rintro e w3 ⟨bV, lV, rfl, hVb, hVl, hB⟩
        have HWb := Aside0.mk (show Rw (fun k => G k ∨ k = t) .u8 w3 bV qb from Rw.of_V hVb HD2.out.lt)
        have HWl := Aside0.mk (show Rs (fun k => G k ∨ k = t) w3 lV ql from Rs.of_V hVl HD2.out.lt)
        have HD3 := Aside0.mk (HD2.out.below hB)
        have HT3 := Aside0.mk (HT2.out.below hB)
        have HB3 := Aside0.mk (below_step HB2.out hB)
        clear hVb hVl hB HD2 HT2 HB2 HC
        obtain ⟨Ab, cb, rfl, _, _⟩ := Rw.slice HWb.out
        obtain ⟨Al, cl, rfl, _, _⟩ := HWl.out.slice
        obtain ⟨b9, hb9⟩ : ∃ b9, w3.heap.size = b9 := ⟨_, rfl⟩
        have HN9 := Aside0.mk (show (w3.alloc (.cells #[.int .i64 qg, .slice Ab qb.length cb, .slice Al ql.length cl] 48)).heap[b9]? = some (.cells #[.int .i64 qg, .slice Ab qb.length cb, .slice Al ql.length cl] 48 (0, 0)) by rw [← hb9]; exact blk_new _ _)
        have HB34 := Aside0.mk (below_alloc (Below.refl w3.heap.size w3) (.cells #[.int .i64 qg, .slice Ab qb.length cb, .slice Al ql.length cl] 48))
        go_wp2
        refine with_w (fun w' => w'.heap[b9]? = some (.cells #[.int .i64 qg, .slice Ab qb.length cb, .slice Al ql.length cl] 48 (0, 0)) ∧ Below w3.heap.size w3 w') ⟨HN9.out, HB34.out⟩ ?_
        rintro w4 ⟨hn9, hb34⟩
        have HN4 := Aside0.mk hn9
        have HD4 := Aside0.mk (HD3.out.below hb34)
        have HT4 := Aside0.mk (HT3.out.below hb34)
        have HB4 := Aside0.mk (below_step HB3.out hb34)
        have HWb4 := Aside0.mk (Rw.below HWb.out hb34)
        have HWl4 := Aside0.mk (HWl.out.below hb34)
        have h90 := (blk_cell hn9 0).trans (show _ = some (Value.int .i64 qg) from rfl)
        have h91 := (blk_cell hn9 1).trans (show _ = some (Value.slice Ab qb.length cb) from rfl)
        have h92 := (blk_cell hn9 2).trans (show _ = some (Value.slice Al ql.length cl) from rfl)
        obtain ⟨hgt, tb, tl, hblk, htb, htl⟩ := HT4.out
        have HBK := Aside0.mk hblk
        have HTR := Aside0.mk (And.intro htb htl)
        have ht0 := (blk_cell hblk 0).trans (show _ = some (Value.int .i64 (pk s f).1.r.gen) from rfl)
        have ht1 := (blk_cell hblk 1).trans (show _ = some tb from rfl)
        have ht2 := (blk_cell hblk 2).trans (show _ = some tl from rfl)
        have ht4 := (blk_cell hblk 4).trans (show _ = some (Value.int .i64 ((pk s f).1.file : Int)) from rfl)
        have hf0 := blk_frozen hblk 0
        have hf1 := blk_frozen hblk 1
        have hf2 := blk_frozen hblk 2
        have hf4 := blk_frozen hblk 4
        have HW := Aside0.mk (show wrap64 ((f : Int) + 1) = ((f + 1 : Nat) : Int) by have := HLT.out; unfold wrap64; omega)
        clear hn9 hb34 HN9 HB34 HB3 HD3 HT3 HWb HWl hb9 hblk htb htl e1 e1n
        by_cases cg : (pk s f).1.r.gen < qg
        · have hpk := HNX.out
          rw [if_pos cg] at hpk
          have HPK := Aside0.mk hpk
          have e2 : decide (qg > (pk s f).1.r.gen) = true := decide_eq_true cg
          have e3 : decide ((pk s f).1.r.gen < qg) = true := decide_eq_true cg
          clear cg hpk
          generalize (pk s f).1.r.gen = pg at *
          go_quiet (fail)
          go_wp2
          rw [HW.out]
          have q0 := blk_put (cs' := #[.int .i64 qg, tb, tl, .pointer (some ⟨g, 0, none⟩), .int .i64 ((pk s f).1.file : Int), .int .i64 ((pk s f).1.kept : Int)]) (blk_drewN HBK.out nq) 0 (.int .i64 qg) rfl
          have q1 := blk_put (cs' := #[.int .i64 qg, .slice Ab qb.length cb, tl, .pointer (some ⟨g, 0, none⟩), .int .i64 ((pk s f).1.file : Int), .int .i64 ((pk s f).1.kept : Int)]) q0 1 (.slice Ab qb.length cb) rfl
          have q2 := blk_put (cs' := #[.int .i64 qg, .slice Ab qb.length cb, .slice Al ql.length cl, .pointer (some ⟨g, 0, none⟩), .int .i64 ((pk s f).1.file : Int), .int .i64 ((pk s f).1.kept : Int)]) q1 2 (.slice Al ql.length cl) rfl
          have q4 := blk_put (cs' := #[.int .i64 qg, .slice Ab qb.length cb, .slice Al ql.length cl, .pointer (some ⟨g, 0, none⟩), .int .i64 (f : Int), .int .i64 ((pk s f).1.kept : Int)]) q2 4 (.int .i64 (f : Int)) rfl
          rw [HKE.out] at q4
          have hwr := (((((Wr.refl t w4).drew1 nq).set 0 (.int .i64 qg)).set 1 (.slice Ab qb.length cb)).set 2 (.slice Al ql.length cl)).set 4 (.int .i64 (f : Int))
          have hws : Ws (fun b => b = t) w4 _ := Ws.of_wr hwr rfl
          have hle : w.heap.size ≤ t := by have := HTT.out; omega
          have HIT := Aside0.mk (show IsT (fun k => G k ∨ k = t) _ t g ⟨⟨qg, qb, ql⟩, f, 0⟩ from ⟨.inr rfl, _, _, q4, Rw.ws HWb4.out hws (fun b e => .inr e), HWl4.out.ws hws (fun b e => .inr e)⟩)
          have HID := Aside0.mk (IsD.other HD4.out hwr (.inr rfl) (by have := HGT.out; have := HTT.out; omega))
          have HIB := Aside0.mk (((((pw_below_drewN HB4.out nq).setCell (p := ⟨t, 0, none⟩) hle (.int .i64 qg)).setCell (p := ⟨t, 1, none⟩) hle (.slice Ab qb.length cb)).setCell (p := ⟨t, 2, none⟩) hle (.slice Al ql.length cl)).setCell (p := ⟨t, 4, none⟩) hle (.int .i64 (f : Int)))
          clear q0 q1 q2 q4 hwr hws hle
          go_roundg (gk - 1)
          case rel => exact ⟨f + 1, by have := HFF.out; have := HLT.out; omega, by rw [HPK.out], rfl, ⟨by unfold OS; rw [HPK.out]; exact ⟨HID.out, HIT.out, HIB.out⟩⟩, ⟨fun _ => HCA.out⟩⟩
          case measure => have := HFF.out; have := HLT.out; omega
        · have hpk := HNX.out
          rw [if_neg cg] at hpk
          have HPK := Aside0.mk hpk
          have e2 : decide (qg > (pk s f).1.r.gen) = false := decide_eq_false cg
          have e3 : decide ((pk s f).1.r.gen < qg) = false := decide_eq_false cg
          clear cg hpk
          generalize (pk s f).1.r.gen = pg at *
          go_quiet (fail)
          go_wp2
          rw [HW.out]
          go_roundg (gk - 1)
          case rel => exact ⟨f + 1, by have := HFF.out; have := HLT.out; omega, by rw [HPK.out], rfl, ⟨by unfold OS; rw [HPK.out]; exact ⟨HD4.out.drN nq, HT4.out.drN nq, pw_below_drewN HB4.out nq⟩⟩, ⟨fun _ => HCA.out⟩⟩
          case measure => have := HFF.out; have := HLT.out; omega
    · obtain rfl : f = 2 := by omega
      have e1 : decide (((2 : Nat) : Int) ≤ 1) = false := by decide
      have HCA := Aside0.mk (HA.out (by decide))
      obtain ⟨⟨x0, dirty⟩, hpk⟩ : ∃ q, pk s 2 = q := ⟨_, rfl⟩
      have HRO := Aside0.mk (pk_rok HBS.out HOK.out.1 2 (by decide))
      have HFI := Aside0.mk (show (pk s 2).1.file ≤ 1 by rcases pk_ok HBS.out HOK.out.1 2 with h | h <;> omega)
      have HH := Aside0.mk (show IsD (fun k => G k ∨ k = t) wr g s ∧ IsT (fun k => G k ∨ k = t) wr t g x0 ∧ Below w.heap.size w wr by have := H.out; unfold OS at this; rw [hpk] at this; exact this)
      have HPI := Aside0.mk (show picked s = (x0, dirty) from hpk)
      rw [hpk] at HRO HFI ⊢
      clear hpk H HA hlt hff
      obtain ⟨hgt, tb, tl, hblk, htb, htl⟩ := HH.out.2.1
      obtain ⟨Al, cl, rfl, _, _⟩ := htl.slice
      obtain ⟨Ab, cb, rfl, _, _⟩ := Rw.slice htb
      obtain ⟨x, hx⟩ : ∃ x : TS, (⟨x0.r, x0.file, x0.r.l.length⟩ : TS) = x := ⟨_, rfl⟩
      have HX := Aside0.mk hx
      have hle : w.heap.size ≤ t := by have := HTT.out; omega
      have hc2 := (blk_cell hblk 2).trans (show _ = some (Value.slice Al x0.r.l.length cl) from rfl)
      have hc5 := (blk_cell hblk 5).trans (show _ = some (Value.int .i64 (x0.kept : Int)) from rfl)
      have hc0 := (blk_cell hblk 0).trans (show _ = some (Value.int .i64 x0.r.gen) from rfl)
      have hf5 := blk_frozen hblk 5
      have q5 := blk_put (cs' := tapeCells ⟨x0.r, x0.file, x0.r.l.length⟩ (.slice Ab x0.r.base.length cb) (.slice Al x0.r.l.length cl) g) hblk 5 (.int .i64 (x0.r.l.length : Int)) rfl
      have hwr := (Wr.refl t wr).set 5 (.int .i64 (x0.r.l.length : Int))
      have hws : Ws (fun b => b = t) wr _ := Ws.of_wr hwr rfl
      have HTX0 := Aside0.mk (And.intro q5 (And.intro (Rw.ws htb hws (fun b e => .inr e)) (htl.ws hws (fun b e => .inr e))))
      have HDX0 := Aside0.mk (IsD.other HH.out.1 hwr (.inr rfl) (by have := HGT.out; have := HTT.out; omega))
      have HBX0 := Aside0.mk (HH.out.2.2.setCell (p := ⟨t, 5, none⟩) hle (.int .i64 (x0.r.l.length : Int)))
      clear q5 hwr hws hle hblk htb htl hx
      by_cases cn : x0.r.gen = 0 ∨ dirty = true
      rotate_left
      · have hg0 : x0.r.gen ≠ 0 := fun e => cn (.inl e)
        have hd0 : dirty = false := by cases dirty; rfl; exact absurd (.inr rfl) cn
        subst hd0
        have d1 : (x0.r.gen == (0 : Int)) = false := by simpa using hg0
        have d2 : (x0.r.gen != (0 : Int)) = true := by simpa using hg0
        have HP := Aside0.mk (show openT s = (some ⟨x0.r, x0.file, x0.r.l.length⟩, s, 0) by
          unfold openT
          rw [HPI.out]
          simp only
          rw [if_neg (fun h => h HCA.out)]
          exact if_neg cn)
        clear cn hg0
        go_wp2
        go_ret2
        rw [← HR.out, HP.out]
        refine ⟨_, rfl, HDX0.out, Ws.of_below HBX0.out, rfl, .inr rfl, _, _, HTX0.out.1, HTX0.out.2.1, HTX0.out.2.2⟩
      · obtain ⟨x9, s9, e9, hsv⟩ : ∃ x9 s9 e9, saveP ⟨x0.r, x0.file, x0.r.l.length⟩ s x0.r.base x0.r.l = (x9, s9, e9) := ⟨_, _, _, rfl⟩
        have HSV := Aside0.mk hsv
        have HPS := Aside0.mk (show openT s = if e9 ≠ 0 then (none, s9, e9) else (some x9, s9, 0) by
          unfold openT
          rw [HPI.out]
          simp only
          rw [if_neg (fun h => h HCA.out), if_pos cn, hsv])
        have HSO := Aside0.mk (show SaveOk ⟨x0.r, x0.file, x0.r.l.length⟩ x0.r.base x0.r.l from
          have ho := HRO.out.1
          ⟨⟨ho.gen.1, by have h2 : x0.r.gen ≤ 1099511627776 := ho.gen.2; show x0.r.gen < 9223372036854775807; omega⟩, HFI.out, ho.bb, fun d hd => (ho.bl d hd).1, by have h2 : x0.r.base.length ≤ 8176 := ho.base; omega, by have := flat_len x0.r.l; have h2 : (x0.r.l.flatMap sealP).length ≤ 4194304 := ho.all; omega, by have h2 : (x0.r.l.flatMap sealP).length ≤ 4194304 := ho.all; omega⟩)
        clear hsv
        by_cases cg : x0.r.gen = 0
        · have d1 : (x0.r.gen == (0 : Int)) = true := by simpa using cg
          clear cn cg
          go_wp2
          refine with_w (fun w' => w'.heap[t]? = some (.cells (tapeCells ⟨x0.r, x0.file, x0.r.l.length⟩ (.slice Ab x0.r.base.length cb) (.slice Al x0.r.l.length cl) g) 50 (0, 0)) ∧ Rw (fun k => G k ∨ k = t) .u8 w' (.slice Ab x0.r.base.length cb) x0.r.base ∧ Rs (fun k => G k ∨ k = t) w' (.slice Al x0.r.l.length cl) x0.r.l ∧ IsD (fun k => G k ∨ k = t) w' g s ∧ Below w.heap.size w w') ⟨HTX0.out.1, HTX0.out.2.1, HTX0.out.2.2, HDX0.out, HBX0.out⟩ ?_
          rintro wq ⟨hbx, hrb, hrl, hdx, hbw⟩
          have HBX := Aside0.mk hbx
          have HRX := Aside0.mk (And.intro hrb hrl)
          have HDX := Aside0.mk hdx
          have HBW := Aside0.mk hbw
          have HTX := Aside0.mk (show IsT (fun k => G k ∨ k = t) wq t g ⟨x0.r, x0.file, x0.r.l.length⟩ from ⟨.inr rfl, _, _, hbx, hrb, hrl⟩)
          clear hbx hrb hrl hdx hbw HTX0 HDX0 HBX0 hc0 hc2 hc5 hf5 HH
          refine start_ (n := 13) (S := fun w' => w'.heap[t]? = some (.cells (tapeCells ⟨x0.r, x0.file, x0.r.l.length⟩ (.slice Ab x0.r.base.length cb) (.slice Al x0.r.l.length cl) g) 50 (0, 0))) (ds := [11]) #[false, false, false, false, false, false, false, false, false, false, false, false, false] (by kernel_rfl) rfl rfl (HBX.out) (fun hHeld => ?_)
          refine pure_ (i := 0) (N := some 68) (v := ?_) (a' := ?_) #[true, false, false, false, false, false, false, false, false, false, false, false, false] rfl rfl (by kernel_rfl) (fun _ _ _ h => h) (Or.inl ⟨by rfl, ?_⟩) ?_ ?_
          rotate_left
          · intro w'
            go_simp
            with_reducible rfl
          rotate_left
          · simp only [Act.put, List.setIfInBounds_toArray, List.set_cons_zero, List.set_cons_succ, i64_w, i32_w]
            rfl
          refine pure_ (i := 1) (N := some 69) (v := ?_) (a' := ?_) #[true, true, false, false, false, false, false, false, false, false, false, false, false] rfl rfl (by kernel_rfl) (fun _ _ _ h => h) (Or.inl ⟨by rfl, ?_⟩) ?_ ?_
          rotate_left
          · intro w'
            go_simp
            with_reducible rfl
          rotate_left
          · simp only [Act.put, List.setIfInBounds_toArray, List.set_cons_zero, List.set_cons_succ, i64_w, i32_w]
            rfl
          refine pure_ (i := 2) (N := some 70) (v := ?_) (a' := ?_) #[true, true, true, false, false, false, false, false, false, false, false, false, false] rfl rfl (by kernel_rfl) (fun _ _ _ h => h) (Or.inl ⟨by rfl, ?_⟩) ?_ ?_
          rotate_left
          · intro w'
            go_simp
            with_reducible rfl
          rotate_left
          · simp only [Act.put, List.setIfInBounds_toArray, List.set_cons_zero, List.set_cons_succ, i64_w, i32_w]
            rfl
          refine pure_ (i := 3) (N := some 71) (v := ?_) (a' := ?_) #[true, true, true, true, false, false, false, false, false, false, false, false, false] rfl rfl (by kernel_rfl) (fun _ _ _ h => h) (Or.inl ⟨by rfl, ?_⟩) ?_ ?_
          rotate_left
          · intro w'
            go_simp
            with_reducible rfl
          rotate_left
          · simp only [Act.put, List.setIfInBounds_toArray, List.set_cons_zero, List.set_cons_succ, i64_w, i32_w]
            rfl
          refine pure_ (i := 4) (N := some 72) (v := ?_) (a' := ?_) #[true, true, true, true, true, false, false, false, false, false, false, false, false] rfl rfl (by kernel_rfl) (fun _ _ _ h => h) (Or.inl ⟨by rfl, ?_⟩) ?_ ?_
          rotate_left
          · intro w'
            go_simp
            with_reducible rfl
          rotate_left
          · simp only [Act.put, List.setIfInBounds_toArray, List.set_cons_zero, List.set_cons_succ, i64_w, i32_w]
            rfl
          refine pure_ (i := 6) (N := some 74) (v := ?_) (a' := ?_) #[true, true, true, true, true, false, true, false, false, false, false, false, false] rfl rfl (by kernel_rfl) (fun _ _ _ h => h) (Or.inl ⟨by rfl, ?_⟩) ?_ ?_
          rotate_left
          · intro w'
            go_simp
            with_reducible rfl
          rotate_left
          · simp only [Act.put, List.setIfInBounds_toArray, List.set_cons_zero, List.set_cons_succ, i64_w, i32_w]
            rfl
          refine pure_ (i := 7) (N := some 75) (v := ?_) (a' := ?_) #[true, true, true, true, true, false, true, true, false, false, false, false, false] rfl rfl (by kernel_rfl) (fun _ _ _ h => h) (Or.inl ⟨by rfl, ?_⟩) ?_ ?_
          rotate_left
          · intro w'
            go_simp
            with_reducible rfl
          rotate_left
          · simp only [Act.put, List.setIfInBounds_toArray, List.set_cons_zero, List.set_cons_succ, i64_w, i32_w]
            rfl
          refine pure_ (i := 8) (N := some 76) (v := ?_) (a' := ?_) #[true, true, true, true, true, false, true, true, true, false, false, false, false] rfl rfl (by kernel_rfl) (fun _ _ _ h => h) (Or.inl ⟨by rfl, ?_⟩) ?_ ?_
          rotate_left
          · intro w'
            go_simp
            with_reducible rfl
          rotate_left
          · simp only [Act.put, List.setIfInBounds_toArray, List.set_cons_zero, List.set_cons_succ, i64_w, i32_w]
            rfl
          refine pure_ (i := 9) (N := some 77) (v := ?_) (a' := ?_) #[true, true, true, true, true, false, true, true, true, true, false, false, false] rfl rfl (by kernel_rfl) (fun _ _ _ h => h) (Or.inl ⟨by rfl, ?_⟩) ?_ ?_
          rotate_left
          · intro w'
            go_simp
            with_reducible rfl
          rotate_left
          · simp only [Act.put, List.setIfInBounds_toArray, List.set_cons_zero, List.set_cons_succ, i64_w, i32_w]
            rfl
          refine take_ (i := 5) (N := some 73) (v := ?_) (a' := ?_) #[true, true, true, true, true, true, true, true, true, true, false, false, false] rfl rfl (by kernel_rfl) (fun _ _ _ h => h) (Or.inl ⟨by rfl, ?_⟩) hHeld ?_ ?_
          rotate_left
          · intro w' s0
            have d2_ := (blk_cell s0 1).trans (show _ = some (Value.slice Ab x0.r.base.length cb) from rfl)
            go_simp
            with_reducible rfl
          rotate_left
          · simp only [Act.put, List.setIfInBounds_toArray, List.set_cons_zero, List.set_cons_succ, i64_w, i32_w]
            rfl
          refine take_ (i := 10) (N := some 78) (v := ?_) (a' := ?_) #[true, true, true, true, true, true, true, true, true, true, true, false, false] rfl rfl (by kernel_rfl) (fun _ _ _ h => h) (Or.inl ⟨by rfl, ?_⟩) hHeld ?_ ?_
          rotate_left
          · intro w' s0
            have d2_ := (blk_cell s0 2).trans (show _ = some (Value.slice Al x0.r.l.length cl) from rfl)
            go_simp
            with_reducible rfl
          rotate_left
          · simp only [Act.put, List.setIfInBounds_toArray, List.set_cons_zero, List.set_cons_succ, i64_w, i32_w]
            rfl
          refine last_ (i := 11) (N := some 79) #[true, true, true, true, true, true, true, true, true, true, true, true, false] rfl rfl (by kernel_rfl) (by decide) (fun K hK => ?_)
          refine goes_ Try.func26 (by kernel_rfl) rfl #[.pointer (some ⟨t, 0, none⟩), .slice Ab x0.r.base.length cb, .slice Al x0.r.l.length cl] (by rfl) rfl rfl (by first | rfl | (simp; done) | (simp only [List.map_toArray, List.map_cons, List.map_nil]; rfl)) ?_
          with_reducible refine (Save_calls (fun k => G k ∨ k = t) t g ⟨x0.r, x0.file, x0.r.l.length⟩ s (.slice Ab x0.r.base.length cb) (.slice Al x0.r.l.length cl) x0.r.base x0.r.l _ HTX.out.dr HDX.out.dr HOK.out (Rw.below HRX.out.1 (below_drew1 (Below.refl _ _))) (HRX.out.2.below (below_drew1 (Below.refl _ _))) HSO.out).mono ?_
          rw [HSV.out]
          rintro e w6 ⟨rfl, hT6, hD6, hW6⟩
          refine ⟨_, rfl, ?_⟩
          refine hK.out _ _ ?_
          clear hK K
          refine norm_ (a' := ?_) ?_ ?_
          rotate_left
          · show Act.put _ (some 79) _ = _
            simp only [Act.put, List.setIfInBounds_toArray, List.set_cons_zero, List.set_cons_succ, i64_w, i32_w]
            rfl
          refine pure_ (i := 12) (N := some 11) (v := ?_) (a' := ?_) #[true, true, true, true, true, true, true, true, true, true, true, true, true] rfl rfl (by kernel_rfl) (fun _ _ _ h => h) (Or.inl ⟨by rfl, ?_⟩) ?_ ?_
          rotate_left
          · intro w'
            go_simp
            with_reducible rfl
          rotate_left
          · simp only [Act.put, List.setIfInBounds_toArray, List.set_cons_zero, List.set_cons_succ, i64_w, i32_w]
            rfl
          refine done_ (by kernel_rfl) ?_
          have HT6 := Aside0.mk hT6
          have HD6 := Aside0.mk hD6
          have HW6 := Aside0.mk (show Ws (fun b => b = g) w w6 from
            have hb := HBW.out
            ⟨hW6.os.trans hb.os, hW6.tape.trans hb.tape, hW6.output.trans hb.output, Nat.le_trans hb.size hW6.size, fun i hi hn => (hW6.block i (Nat.lt_of_lt_of_le hi hb.size) (fun hp => by rcases hp with hp | hp; (have := HTT.out; omega); exact hn hp)).trans (hb.block i hi)⟩)
          clear hT6 hD6 hW6
          by_cases c9 : e9 = 0
          · subst c9
            have HP := Aside0.mk (HPS.out.trans (if_neg (fun h => h rfl)))
            go_wp2
            go_ret2
            rw [← HR.out, HP.out]
            exact ⟨_, rfl, HD6.out, HW6.out, rfl, HT6.out⟩
          · have d9 : (e9 != (0 : Int)) = true := by simpa using c9
            have d8 : (e9 == (0 : Int)) = false := by simpa using c9
            have HP := Aside0.mk (HPS.out.trans (if_pos c9))
            clear c9
            go_wp2
            go_ret2
            rw [← HR.out, HP.out]
            exact ⟨_, rfl, HD6.out, HW6.out, rfl⟩
        · have hd0 : dirty = true := cn.resolve_left cg
          subst hd0
          have d1 : (x0.r.gen == (0 : Int)) = false := by simpa using cg
          clear cn cg
          go_wp2
          refine with_w (fun w' => w'.heap[t]? = some (.cells (tapeCells ⟨x0.r, x0.file, x0.r.l.length⟩ (.slice Ab x0.r.base.length cb) (.slice Al x0.r.l.length cl) g) 50 (0, 0)) ∧ Rw (fun k => G k ∨ k = t) .u8 w' (.slice Ab x0.r.base.length cb) x0.r.base ∧ Rs (fun k => G k ∨ k = t) w' (.slice Al x0.r.l.length cl) x0.r.l ∧ IsD (fun k => G k ∨ k = t) w' g s ∧ Below w.heap.size w w') ⟨HTX0.out.1, HTX0.out.2.1, HTX0.out.2.2, HDX0.out, HBX0.out⟩ ?_
          rintro wq ⟨hbx, hrb, hrl, hdx, hbw⟩
          have HBX := Aside0.mk hbx
          have HRX := Aside0.mk (And.intro hrb hrl)
          have HDX := Aside0.mk hdx
          have HBW := Aside0.mk hbw
          have HTX := Aside0.mk (show IsT (fun k => G k ∨ k = t) wq t g ⟨x0.r, x0.file, x0.r.l.length⟩ from ⟨.inr rfl, _, _, hbx, hrb, hrl⟩)
          clear hbx hrb hrl hdx hbw HTX0 HDX0 HBX0 hc0 hc2 hc5 hf5 HH
          refine start_ (n := 13) (S := fun w' => w'.heap[t]? = some (.cells (tapeCells ⟨x0.r, x0.file, x0.r.l.length⟩ (.slice Ab x0.r.base.length cb) (.slice Al x0.r.l.length cl) g) 50 (0, 0))) (ds := [11]) #[false, false, false, false, false, false, false, false, false, false, false, false, false] (by kernel_rfl) rfl rfl (HBX.out) (fun hHeld => ?_)
          refine pure_ (i := 0) (N := some 68) (v := ?_) (a' := ?_) #[true, false, false, false, false, false, false, false, false, false, false, false, false] rfl rfl (by kernel_rfl) (fun _ _ _ h => h) (Or.inl ⟨by rfl, ?_⟩) ?_ ?_
          rotate_left
          · intro w'
            go_simp
            with_reducible rfl
          rotate_left
          · simp only [Act.put, List.setIfInBounds_toArray, List.set_cons_zero, List.set_cons_succ, i64_w, i32_w]
            rfl
          refine pure_ (i := 1) (N := some 69) (v := ?_) (a' := ?_) #[true, true, false, false, false, false, false, false, false, false, false, false, false] rfl rfl (by kernel_rfl) (fun _ _ _ h => h) (Or.inl ⟨by rfl, ?_⟩) ?_ ?_
          rotate_left
          · intro w'
            go_simp
            with_reducible rfl
          rotate_left
          · simp only [Act.put, List.setIfInBounds_toArray, List.set_cons_zero, List.set_cons_succ, i64_w, i32_w]
            rfl
          refine pure_ (i := 2) (N := some 70) (v := ?_) (a' := ?_) #[true, true, true, false, false, false, false, false, false, false, false, false, false] rfl rfl (by kernel_rfl) (fun _ _ _ h => h) (Or.inl ⟨by rfl, ?_⟩) ?_ ?_
          rotate_left
          · intro w'
            go_simp
            with_reducible rfl
          rotate_left
          · simp only [Act.put, List.setIfInBounds_toArray, List.set_cons_zero, List.set_cons_succ, i64_w, i32_w]
            rfl
          refine pure_ (i := 3) (N := some 71) (v := ?_) (a' := ?_) #[true, true, true, true, false, false, false, false, false, false, false, false, false] rfl rfl (by kernel_rfl) (fun _ _ _ h => h) (Or.inl ⟨by rfl, ?_⟩) ?_ ?_
          rotate_left
          · intro w'
            go_simp
            with_reducible rfl
          rotate_left
          · simp only [Act.put, List.setIfInBounds_toArray, List.set_cons_zero, List.set_cons_succ, i64_w, i32_w]
            rfl
          refine pure_ (i := 4) (N := some 72) (v := ?_) (a' := ?_) #[true, true, true, true, true, false, false, false, false, false, false, false, false] rfl rfl (by kernel_rfl) (fun _ _ _ h => h) (Or.inl ⟨by rfl, ?_⟩) ?_ ?_
          rotate_left
          · intro w'
            go_simp
            with_reducible rfl
          rotate_left
          · simp only [Act.put, List.setIfInBounds_toArray, List.set_cons_zero, List.set_cons_succ, i64_w, i32_w]
            rfl
          refine pure_ (i := 6) (N := some 74) (v := ?_) (a' := ?_) #[true, true, true, true, true, false, true, false, false, false, false, false, false] rfl rfl (by kernel_rfl) (fun _ _ _ h => h) (Or.inl ⟨by rfl, ?_⟩) ?_ ?_
          rotate_left
          · intro w'
            go_simp
            with_reducible rfl
          rotate_left
          · simp only [Act.put, List.setIfInBounds_toArray, List.set_cons_zero, List.set_cons_succ, i64_w, i32_w]
            rfl
          refine pure_ (i := 7) (N := some 75) (v := ?_) (a' := ?_) #[true, true, true, true, true, false, true, true, false, false, false, false, false] rfl rfl (by kernel_rfl) (fun _ _ _ h => h) (Or.inl ⟨by rfl, ?_⟩) ?_ ?_
          rotate_left
          · intro w'
            go_simp
            with_reducible rfl
          rotate_left
          · simp only [Act.put, List.setIfInBounds_toArray, List.set_cons_zero, List.set_cons_succ, i64_w, i32_w]
            rfl
          refine pure_ (i := 8) (N := some 76) (v := ?_) (a' := ?_) #[true, true, true, true, true, false, true, true, true, false, false, false, false] rfl rfl (by kernel_rfl) (fun _ _ _ h => h) (Or.inl ⟨by rfl, ?_⟩) ?_ ?_
          rotate_left
          · intro w'
            go_simp
            with_reducible rfl
          rotate_left
          · simp only [Act.put, List.setIfInBounds_toArray, List.set_cons_zero, List.set_cons_succ, i64_w, i32_w]
            rfl
          refine pure_ (i := 9) (N := some 77) (v := ?_) (a' := ?_) #[true, true, true, true, true, false, true, true, true, true, false, false, false] rfl rfl (by kernel_rfl) (fun _ _ _ h => h) (Or.inl ⟨by rfl, ?_⟩) ?_ ?_
          rotate_left
          · intro w'
            go_simp
            with_reducible rfl
          rotate_left
          · simp only [Act.put, List.setIfInBounds_toArray, List.set_cons_zero, List.set_cons_succ, i64_w, i32_w]
            rfl
          refine take_ (i := 5) (N := some 73) (v := ?_) (a' := ?_) #[true, true, true, true, true, true, true, true, true, true, false, false, false] rfl rfl (by kernel_rfl) (fun _ _ _ h => h) (Or.inl ⟨by rfl, ?_⟩) hHeld ?_ ?_
          rotate_left
          · intro w' s0
            have d2_ := (blk_cell s0 1).trans (show _ = some (Value.slice Ab x0.r.base.length cb) from rfl)
            go_simp
            with_reducible rfl
          rotate_left
          · simp only [Act.put, List.setIfInBounds_toArray, List.set_cons_zero, List.set_cons_succ, i64_w, i32_w]
            rfl
          refine take_ (i := 10) (N := some 78) (v := ?_) (a' := ?_) #[true, true, true, true, true, true, true, true, true, true, true, false, false] rfl rfl (by kernel_rfl) (fun _ _ _ h => h) (Or.inl ⟨by rfl, ?_⟩) hHeld ?_ ?_
          rotate_left
          · intro w' s0
            have d2_ := (blk_cell s0 2).trans (show _ = some (Value.slice Al x0.r.l.length cl) from rfl)
            go_simp
            with_reducible rfl
          rotate_left
          · simp only [Act.put, List.setIfInBounds_toArray, List.set_cons_zero, List.set_cons_succ, i64_w, i32_w]
            rfl
          refine last_ (i := 11) (N := some 79) #[true, true, true, true, true, true, true, true, true, true, true, true, false] rfl rfl (by kernel_rfl) (by decide) (fun K hK => ?_)
          refine goes_ Try.func26 (by kernel_rfl) rfl #[.pointer (some ⟨t, 0, none⟩), .slice Ab x0.r.base.length cb, .slice Al x0.r.l.length cl] (by rfl) rfl rfl (by first | rfl | (simp; done) | (simp only [List.map_toArray, List.map_cons, List.map_nil]; rfl)) ?_
          with_reducible refine (Save_calls (fun k => G k ∨ k = t) t g ⟨x0.r, x0.file, x0.r.l.length⟩ s (.slice Ab x0.r.base.length cb) (.slice Al x0.r.l.length cl) x0.r.base x0.r.l _ HTX.out.dr HDX.out.dr HOK.out (Rw.below HRX.out.1 (below_drew1 (Below.refl _ _))) (HRX.out.2.below (below_drew1 (Below.refl _ _))) HSO.out).mono ?_
          rw [HSV.out]
          rintro e w6 ⟨rfl, hT6, hD6, hW6⟩
          refine ⟨_, rfl, ?_⟩
          refine hK.out _ _ ?_
          clear hK K
          refine norm_ (a' := ?_) ?_ ?_
          rotate_left
          · show Act.put _ (some 79) _ = _
            simp only [Act.put, List.setIfInBounds_toArray, List.set_cons_zero, List.set_cons_succ, i64_w, i32_w]
            rfl
          refine pure_ (i := 12) (N := some 11) (v := ?_) (a' := ?_) #[true, true, true, true, true, true, true, true, true, true, true, true, true] rfl rfl (by kernel_rfl) (fun _ _ _ h => h) (Or.inl ⟨by rfl, ?_⟩) ?_ ?_
          rotate_left
          · intro w'
            go_simp
            with_reducible rfl
          rotate_left
          · simp only [Act.put, List.setIfInBounds_toArray, List.set_cons_zero, List.set_cons_succ, i64_w, i32_w]
            rfl
          refine done_ (by kernel_rfl) ?_
          have HT6 := Aside0.mk hT6
          have HD6 := Aside0.mk hD6
          have HW6 := Aside0.mk (show Ws (fun b => b = g) w w6 from
            have hb := HBW.out
            ⟨hW6.os.trans hb.os, hW6.tape.trans hb.tape, hW6.output.trans hb.output, Nat.le_trans hb.size hW6.size, fun i hi hn => (hW6.block i (Nat.lt_of_lt_of_le hi hb.size) (fun hp => by rcases hp with hp | hp; (have := HTT.out; omega); exact hn hp)).trans (hb.block i hi)⟩)
          clear hT6 hD6 hW6
          by_cases c9 : e9 = 0
          · subst c9
            have HP := Aside0.mk (HPS.out.trans (if_neg (fun h => h rfl)))
            go_wp2
            go_ret2
            rw [← HR.out, HP.out]
            exact ⟨_, rfl, HD6.out, HW6.out, rfl, HT6.out⟩
          · have d9 : (e9 != (0 : Int)) = true := by simpa using c9
            have d8 : (e9 == (0 : Int)) = false := by simpa using c9
            have HP := Aside0.mk (HPS.out.trans (if_pos c9))
            clear c9
            go_wp2
            go_ret2
            rw [← HR.out, HP.out]
            exact ⟨_, rfl, HD6.out, HW6.out, rfl⟩
end Go.Proofs.Ytehjbhnlbjbhfaa.Tp
-- TpM
namespace Go.Proofs.Ytehjbhnlbjbhfaa.Tp
open Go Go.RowKit Go.Proofs.YtehjbhnlbjbhfaaW.PrintWords Go.Proofs.YtehjbhnlbjbhfaaW.PrintLast Go.Proofs.YtehjbhnlbjbhfaaW.PrintMore Go.Proofs.Ytehjbhnlbjbhfaa.Wire Go.Proofs.Ytehjbhnlbjbhfaa.Wk Go.Proofs.Ytehjbhnlbjbhfaa.Dk
set_option linter.unusedVariables false
set_option linter.unusedSimpArgs false
theorem info9' : (Try.prog.info? 9).map (fun i => (i.zero, i.size, i.bytes)) = some (some (.string ⟨#[]⟩), 1, 16) := by kernel_rfl
def RcS (w : World) (os : List ByteArray) (v : Value) (W : World) : Prop := Kd.R Kd.string 9 W w.heap.size (fun _ => True) v os ∧ Below w.heap.size w W
set_option maxHeartbeats 8000000 in
set_option maxRecDepth 100000 in
theorem records_calls (G : Nat → Prop) (t g : Nat) (x : TS) (w : World) (hT : IsT G w t g x) (hn : x.r.l.length < 1000000000) (hl : ∀ d ∈ x.r.l, d.length < 1000000000) :
    Calls Try.prog 40 #[.pointer (some ⟨t, 0, none⟩)] w fun e w' => ∃ v, e = .returned v ∧ Kd.R Kd.string 9 w' w.heap.size (fun _ => True) v (x.r.l.map strOfNums) ∧ Below w.heap.size w w' := by
  have HT := Aside0.mk hT
  have HN := Aside0.mk hn
  have HL := Aside0.mk hl
  have HLE := Aside0.mk (Len_calls G t g x w hT)
  clear hT hn hl
  go_enter Try.func40, Try.ntmps40
  go_wp2_with (fail)
  refine HLE.out.mono ?_
  rintro e w1 ⟨rfl, ⟨n0, rfl⟩⟩
  have H0 := Aside0.mk (show RcS w [] (.slice none 0 0) (w.drewN n0) from ⟨Kd.R_nil _ _ _ _ _, pw_below_drewN (Below.refl _ _) n0⟩)
  go_wp2
  go_loopg [3, 9] x.r.l.length (fun fu v3 v9 wr => ∃ j : Nat, j + fu = x.r.l.length ∧ v9 = .int .i64 (j : Int) ∧ Aside0 (RcS w ((x.r.l.take j).map strOfNums) v3 wr))
  case atStart => exact ⟨0, by omega, rfl, H0⟩
  case round =>
    obtain ⟨j, hjf, rfl, H⟩ := hrel
    clear H0
    have HJF := Aside0.mk hjf
    obtain ⟨O, hO⟩ : ∃ O, (x.r.l.take j).map strOfNums = O := ⟨_, rfl⟩
    have HO := Aside0.mk hO
    rw [hO] at H
    clear hO
    by_cases hlt : j < x.r.l.length
    · have e1 : decide ((j : Int) < (x.r.l.length : Int)) = true := decide_eq_true (by omega)
      have e2 : decide (j < x.r.l.length) = true := decide_eq_true hlt
      have HLT := Aside0.mk hlt
      have HDL := Aside0.mk (show (x.r.l.getD j []).length < 1000000000 by
        rw [List.getD_eq_getElem?_getD, List.getElem?_eq_getElem hlt]
        exact HL.out _ (List.getElem_mem hlt))
      have HTK := Aside0.mk (show (x.r.l.take (j + 1)).map strOfNums = O ++ [strOfNums (x.r.l.getD j [])] by
        rw [← HO.out, List.take_add_one, List.getElem?_eq_getElem hlt, List.getD_eq_getElem?_getD, List.getElem?_eq_getElem hlt, List.map_append]; rfl)
      have HOL := Aside0.mk (show (O.length + 1) * 16 ≤ 140737488355328 by
        have h1 : O.length ≤ x.r.l.length := by rw [← HO.out, List.length_map, List.length_take]; omega
        have := HN.out
        omega)
      have HAT := Aside0.mk (At_calls G t g x j _ (HT.out.below H.out.2) hlt HN.out HDL.out)
      have HW := Aside0.mk (show wrap64 ((j : Int) + 1) = ((j + 1 : Nat) : Int) by
        have := HN.out
        unfold wrap64; omega)
      clear hjf
      generalize x.r.l.getD j [] = D at *
      go_wp2_with (fail)
      refine HAT.out.mono ?_
      rintro e w2 ⟨v, rfl, hR, hB⟩
      obtain ⟨A2, c2, rfl⟩ := Kd.R_slice hR
      have hcv := Kd.C_string (P := Try.prog) (A := A2) (c := c2) Try.underlying32 Try.underlying5 Try.underlying9 (Kd.R_reads' hR).2.2
      have H2 := Aside0.mk (show RcS w O _ w2 from ⟨Kd.R_below H.out.1 hB, below_step H.out.2 hB⟩)
      clear hR hB hlt H
      go_wp2_with (first | ((with_reducible refine gate_builtin (b := .append) (xs := #[.tmp 18, .tmp 21]) rfl ?_); at_builtin; refine Kd.R_append Kd.string (w0 := w) w.heap.size rfl (.tmp 18) (.tmp 21) 81 9 (.string ⟨#[]⟩) 16 rfl Try.underlying81 info9' rfl (by decide) (by omega) _ O (strOfNums D) [.string (strOfNums D)] (fun _ => True) (fun _ => False) rfl rfl rfl (fun _ hk => hk.elim) (fun _ _ => trivial) H2.out.1 H2.out.2 H2.out.2.size HOL.out ?_; intro v7 w7 h1 h2 h3 _; have HR7 := Aside0.mk h1; have HB7 := Aside0.mk h2; clear h1 h2 h3))
      rw [HW.out]
      go_roundg (gk - 1)
      case rel => exact ⟨j + 1, by have := HJF.out; have := HLT.out; omega, rfl, ⟨by rw [HTK.out]; exact ⟨HR7.out, HB7.out⟩⟩⟩
      case measure => have := HJF.out; have := HLT.out; omega
    · obtain rfl : j = x.r.l.length := by omega
      have e1 : decide ((x.r.l.length : Int) < (x.r.l.length : Int)) = false := decide_eq_false (by omega)
      have HOE := Aside0.mk (show O = x.r.l.map strOfNums by rw [← HO.out, List.take_length])
      clear hlt hjf
      go_wp2
      go_ret
      rw [← HOE.out]
      exact ⟨_, rfl, H.out.1, H.out.2⟩
end Go.Proofs.Ytehjbhnlbjbhfaa.Tp
-- TpN
namespace Go.Proofs.Ytehjbhnlbjbhfaa.Tp
open Go Go.RowKit Go.Proofs.YtehjbhnlbjbhfaaW.PrintWords Go.Proofs.YtehjbhnlbjbhfaaW.PrintLast Go.Proofs.YtehjbhnlbjbhfaaW.PrintMore Go.Proofs.Ytehjbhnlbjbhfaa.Wire Go.Proofs.Ytehjbhnlbjbhfaa.Wk Go.Proofs.Ytehjbhnlbjbhfaa.Dk
set_option linter.unusedVariables false
set_option linter.unusedSimpArgs false
def bx : TS := ⟨⟨1, [], []⟩, 0, 0⟩
def bs0 : DS := (openT (newP 2097152)).2.1
theorem begun_eq : openT (newP 2097152) = (some bx, bs0, 0) := by rfl
theorem newP_bs (room : Int) : BsD (newP room) := fun f hf => by
  have : f = nf := List.eq_of_mem_replicate hf
  subst this
  exact ⟨fun x hx => absurd hx (by simp [nf]), fun x hx => absurd hx (by simp [nf])⟩
set_option maxHeartbeats 8000000 in
set_option maxRecDepth 100000 in
theorem begun_calls (w : World) : Calls Try.prog 41 #[] w fun e w' => ∃ b t, e = .returned (.tuple #[.pointer (some ⟨b, 0, none⟩), .pointer (some ⟨t, 0, none⟩), .bool true]) ∧ w.heap.size ≤ b ∧ w.heap.size ≤ t ∧ IsD (fun k => k = b ∨ k = t) w' b bs0 ∧ IsT (fun k => k = b ∨ k = t) w' t b bx ∧ Below w.heap.size w w' := by
  go_enter Try.func41, Try.ntmps41
  go_wp2_with (fail)
  refine (New_calls 2097152 w (by decide) (by decide)).mono ?_
  rintro e w1 ⟨b, rfl, hle, hlt, hB, hI⟩
  have HI := Aside0.mk (hI (fun k => k = b) (fun k e => e ▸ hlt) rfl)
  have HB := Aside0.mk hB
  have HLE := Aside0.mk hle
  have HLT := Aside0.mk hlt
  clear hle hlt hB hI
  go_wp2_with (fail)
  refine (Open_calls (fun k => k = b) b (newP 2097152) _ HI.out (newP_okk 2097152 (by decide)) (newP_bs _)).mono ?_
  rw [begun_eq]
  rintro e w2 ⟨p, rfl, hD, hW, hp, hT⟩
  subst hp
  have HD := Aside0.mk hD
  have HT := Aside0.mk hT
  have HW := Aside0.mk (hW.below HB.out (fun k e => e ▸ HLE.out))
  clear hD hW hT
  go_wp2
  go_ret3
  exact ⟨b, w1.heap.size, rfl, HLE.out, HB.out.size, HD.out, HT.out, HW.out⟩
end Go.Proofs.Ytehjbhnlbjbhfaa.Tp
-- TpO
namespace Go.Proofs.Ytehjbhnlbjbhfaa.Tp
open Go Go.RowKit Go.Proofs.Ytehjbhnlbjbhfaa.Wire Go.Proofs.Ytehjbhnlbjbhfaa.Wk Go.Proofs.Ytehjbhnlbjbhfaa.Dk
set_option linter.unusedVariables false
theorem saveW_okk {s : DS} (h : Okk s) (t : TS) (base : List Int) (l : List (List Int)) (all : List Int) : Okk (saveW t s base l all).2.1 := by
  unfold saveW
  simp only
  split
  · exact h.clear _
  · split
    · exact (h.clear _).append _ _
    · split
      · exact ((h.clear _).append _ _).sync _
      · exact ((h.clear _).append _ _).sync _
theorem saveP_okk {s : DS} (h : Okk s) (t : TS) (base : List Int) (l : List (List Int)) : Okk (saveP t s base l).2.1 := by
  unfold saveP
  split
  · exact h
  · split
    · exact h
    · split
      · exact h
      · split
        · exact h
        · exact saveW_okk h _ _ _ _
theorem putP_okk {s : DS} (h : Okk s) (t : TS) (d : List Int) : Okk (putP t s d).2.1 := by
  unfold putP
  split
  · exact h
  · simp only
    split
    · exact h.append _ _
    · exact h.append _ _
theorem syncT_okk {s : DS} (h : Okk s) (t : TS) : Okk (syncT t s).2.1 := by
  unfold syncT
  simp only
  split
  · exact h.sync _
  · exact h.sync _
theorem openT_okk {s : DS} (h : Okk s) : Okk (openT s).2.1 := by
  unfold openT
  split
  · exact h
  · simp only
    split
    · split
      · exact saveP_okk h _ _ _
      · exact saveP_okk h _ _ _
    · exact h
theorem bs_take {l : List Int} (h : Bs l) (n : Nat) : Bs (l.take n) := fun x hx => h x (List.mem_of_mem_take hx)
theorem after_bs {f : Fl} (h : Bs f.seen ∧ Bs f.lasts) (k : Int) : Bs (afterP f k).seen ∧ Bs (afterP f k).lasts := by
  unfold afterP
  split
  · split
    · exact ⟨bs_take h.1 _, bs_take h.1 _⟩
    · exact ⟨bs_take h.1 _, bs_take h.1 _⟩
  · exact ⟨h.2, h.2⟩
theorem fallFs_bs (keep : List Int) : ∀ (l : List Fl) (i : Nat), (∀ f ∈ l, Bs f.seen ∧ Bs f.lasts) → ∀ f ∈ fallFs keep i l, Bs f.seen ∧ Bs f.lasts := by
  intro l
  induction l with
  | nil => intro i h f hf; simp [fallFs] at hf
  | cons a r ih =>
    intro i h f hf
    unfold fallFs at hf
    rcases List.mem_cons.1 hf with rfl | hf
    · exact after_bs (h a (List.mem_cons_self ..)) _
    · exact ih (i + 1) (fun f hf => h f (List.mem_cons_of_mem _ hf)) f hf
theorem BsD.fall {s : DS} (h : BsD s) (keep : List Int) : BsD (fallP s keep) := fallFs_bs keep s.fs 0 h
theorem BsD.setF {s : DS} (h : BsD s) (i : Nat) {f : Fl} (hf : Bs f.seen ∧ Bs f.lasts) : BsD (setF s i f) := by
  intro x hx
  rcases List.mem_or_eq_of_mem_set hx with hx | rfl
  · exact h x hx
  · exact hf
theorem BsD.burn {s : DS} (h : BsD s) (n : Nat) : BsD (burnS s n) := by
  unfold burnS
  split
  · exact h
  · exact h
theorem BsD.act {s : DS} (n : Nat) (done : DS → Nat → DS) (hd : BsD (done (burnS s n) (burnN s n))) : BsD (actP s n done).1 := by
  unfold actP
  split
  · exact hd.fall _
  · exact hd
theorem BsD.append {s : DS} (h : BsD s) (i : Int) {b : List Int} (hb : Bs b) : BsD (appendP s i b).1 := by
  unfold appendP
  split
  · exact h
  · split
    · exact h
    · refine BsD.act _ _ ?_
      unfold doneA
      have hf := (h.burn b.length).fl i.toNat
      exact (h.burn b.length).setF _ ⟨hf.1.app (bs_take hb _), hf.2⟩
theorem BsD.clear {s : DS} (h : BsD s) (i : Int) : BsD (clearP s i).1 := by
  unfold clearP
  split
  · exact h
  · refine BsD.act _ _ ?_
    unfold doneC
    have hf := (h.burn 1).fl i.toNat
    split
    · exact (h.burn 1).setF _ ⟨fun x hx => absurd hx (by simp), hf.2⟩
    · exact h.burn 1
theorem BsD.sync {s : DS} (h : BsD s) (i : Int) : BsD (syncP s i).1 := by
  unfold syncP
  split
  · exact h
  · refine BsD.act _ _ ?_
    unfold doneY
    have hf := (h.burn 1).fl i.toNat
    split
    · exact (h.burn 1).setF _ ⟨hf.1, hf.1⟩
    · exact h.burn 1
theorem BsD.crash {s : DS} (h : BsD s) (keep : List Int) : BsD (crashP s keep).1 := by
  unfold crashP
  split
  · exact h
  · exact h.fall _
theorem BsD.arm {s : DS} (h : BsD s) (n : Int) (keep : List Int) : BsD (armP s n keep).1 := by
  unfold armP
  split
  · exact h
  · split
    · exact h
    · exact h
end Go.Proofs.Ytehjbhnlbjbhfaa.Tp
-- TpS
namespace Go.Proofs.Ytehjbhnlbjbhfaa.Tp
open Go Go.RowKit Go.Proofs.YtehjbhnlbjbhfaaW.PrintWords Go.Proofs.YtehjbhnlbjbhfaaW.PrintLast Go.Proofs.YtehjbhnlbjbhfaaW.PrintMore Go.Proofs.Ytehjbhnlbjbhfaa.Wire Go.Proofs.Ytehjbhnlbjbhfaa.Wk Go.Proofs.Ytehjbhnlbjbhfaa.Dk
set_option linter.unusedVariables false
theorem open_nil : (openP []).2.2 ≠ 0 := by
  have h := open_cut [] (by decide) 0 (by rw [seal_len]; omega)
  rw [List.take_zero] at h
  rw [h]; decide
theorem allP_go : ∀ (ls : List (List Int)) (l0 rest : List Int) (outs : List (List Int)) (f n : Nat), Bs l0 → (∀ d ∈ ls, d.length ≤ 8192) → (openP rest).2.2 ≠ 0 → l0.drop n = ls.flatMap sealP ++ rest → AP l0 f n outs → allP l0 = (outs ++ ls, n + (ls.flatMap sealP).length) := by
  intro ls
  induction ls with
  | nil =>
    intro l0 rest outs f n hb hl he hd hA
    obtain ⟨f, rfl⟩ : ∃ f', f = f' + 1 := ⟨f - 1, by have := hA.2.1; omega⟩
    rw [hA.stop (by rw [hd]; exact he)]
    simp
  | cons d ls ih =>
    intro l0 rest outs f n hb hl he hd hA
    obtain ⟨f, rfl⟩ : ∃ f', f = f' + 1 := ⟨f - 1, by have := hA.2.1; omega⟩
    rw [List.flatMap_cons, List.append_assoc] at hd
    have ho : openP (l0.drop n) = (d, (sealP d).length, 0) := by rw [hd]; exact open_seal _ _ (hl d (List.mem_cons_self ..))
    obtain ⟨hA2, hle⟩ := hA.step hb ho
    rw [ih l0 rest (outs ++ [d]) f (n + (sealP d).length) hb (fun x hx => hl x (List.mem_cons_of_mem _ hx)) he (by rw [← List.drop_drop, hd, List.drop_left]) hA2]
    rw [List.append_assoc, List.flatMap_cons, List.length_append]
    simp only [List.cons_append, List.nil_append]
    exact Prod.ext rfl (by show _ + _ + _ = _ + (_ + _); omega)
theorem allP_recs {ls : List (List Int)} {rest : List Int} (hb : Bs (ls.flatMap sealP ++ rest)) (hl : ∀ d ∈ ls, d.length ≤ 8192) (he : (openP rest).2.2 ≠ 0) : allP (ls.flatMap sealP ++ rest) = (ls, (ls.flatMap sealP).length) := by
  rw [allP_go ls _ rest [] _ 0 hb hl he (List.drop_zero ..) (show AP _ ((ls.flatMap sealP ++ rest).length + 1) 0 [] from ⟨Nat.zero_le _, by omega, by simp [allP], Nat.le_refl _⟩)]
  simp
theorem flat_cut : ∀ (ls : List (List Int)) (m : Nat), m < (ls.flatMap sealP).length → ∃ j m', j < ls.length ∧ m' < (sealP (ls.getD j [])).length ∧ (ls.flatMap sealP).take m = (ls.take j).flatMap sealP ++ (sealP (ls.getD j [])).take m' := by
  intro ls
  induction ls with
  | nil => intro m h; simp at h
  | cons d ls ih =>
    intro m h
    by_cases c : m < (sealP d).length
    · refine ⟨0, m, by simp, by simpa using c, ?_⟩
      rw [List.flatMap_cons, List.take_append_of_le_length (by omega)]
      simp
    · rw [List.flatMap_cons, List.length_append] at h
      obtain ⟨j, m', h1, h2, h3⟩ := ih (m - (sealP d).length) (by omega)
      refine ⟨j + 1, m', by simp; omega, by simpa using h2, ?_⟩
      rw [List.flatMap_cons, List.take_append, List.take_of_length_le (by omega), h3]
      simp [List.append_assoc]
def headB (gen many : Int) (base : List Int) : List Int := Wire.encs [gen, many] ++ recP base
theorem headE_zero {gen many : Int} {base : List Int} (h : (headE gen many base).2 = 0) : (headB gen many base).length ≤ 8192 ∧ headE gen many base = (sealP (headB gen many base), 0) := by
  unfold headE sealE headB at *
  split at h
  · exact absurd h (by decide)
  · rename_i c
    exact ⟨by omega, by rw [if_neg c]⟩
theorem encs_two (a b : Int) : Wire.encs [a, b] = enc 9 a.toNat ++ enc 9 b.toNat := by simp [Wire.encs]
theorem headR_head {gen many : Int} {base : List Int} (rest : List (List Int)) (hg : 1 ≤ gen ∧ gen ≤ 1099511627776) (hm : 0 ≤ many ∧ many ≤ 1099511627776) (hb : base.length ≤ 8176) : headR (headB gen many base) rest = if (rest.length : Int) < many then none else some ⟨gen, base, rest⟩ := by
  obtain ⟨g, rfl⟩ := Int.eq_ofNat_of_zero_le (show 0 ≤ gen by omega)
  obtain ⟨m, rfl⟩ := Int.eq_ofNat_of_zero_le (show 0 ≤ many by omega)
  have hs : headB (g : Int) (m : Int) base = enc 9 g ++ (enc 9 m ++ (enc 9 base.length ++ base)) := by
    unfold headB recP; rw [encs_two, Int.toNat_natCast, Int.toNat_natCast, List.append_assoc]
  rw [hs]
  have n1 := num_enc g (enc 9 m ++ (enc 9 base.length ++ base)) (by omega)
  have n2 := num_enc m (enc 9 base.length ++ base) (by omega)
  have n3 := num_enc base.length base (by omega)
  have d1 : (enc 9 g ++ (enc 9 m ++ (enc 9 base.length ++ base))).drop 0 = enc 9 g ++ (enc 9 m ++ (enc 9 base.length ++ base)) := List.drop_zero ..
  have d2 : (enc 9 g ++ (enc 9 m ++ (enc 9 base.length ++ base))).drop (enc 9 g).length = enc 9 m ++ (enc 9 base.length ++ base) := List.drop_left ..
  have d3 : (enc 9 g ++ (enc 9 m ++ (enc 9 base.length ++ base))).drop ((enc 9 g).length + (enc 9 m).length) = enc 9 base.length ++ base := by rw [← List.drop_drop, d2, List.drop_left]
  have d4 : (enc 9 g ++ (enc 9 m ++ (enc 9 base.length ++ base))).drop ((enc 9 g).length + (enc 9 m).length + (enc 9 base.length).length) = base := by rw [← List.drop_drop, d3, List.drop_left]
  have hl : (enc 9 g ++ (enc 9 m ++ (enc 9 base.length ++ base))).length = (enc 9 g).length + (enc 9 m).length + (enc 9 base.length).length + base.length := by simp only [List.length_append]; omega
  generalize enc 9 g ++ (enc 9 m ++ (enc 9 base.length ++ base)) = s at *
  have w1 : withinP s 1 1099511627776 0 0 = ((g : Int), (enc 9 g).length, 0) := by
    unfold withinP
    rw [if_neg (fun h => h rfl), d1, n1]
    simp only
    rw [if_neg (fun h => h rfl), if_neg (by omega), Nat.zero_add]
  have w2 : withinP s 0 1099511627776 (enc 9 g).length 0 = ((m : Int), (enc 9 g).length + (enc 9 m).length, 0) := by
    unfold withinP
    rw [if_neg (fun h => h rfl), d2, n2]
    simp only
    rw [if_neg (fun h => h rfl), if_neg (by omega)]
  have w3 : bytesE s 8176 ((enc 9 g).length + (enc 9 m).length) 0 = (base, s.length, 0) := by
    unfold bytesE bytesP
    rw [if_neg (fun h => h rfl), d3, n3]
    simp only
    rw [if_neg (fun h => h rfl), if_neg (by omega), if_neg (by omega), d4, List.take_length]
    exact Prod.ext rfl (Prod.ext (by show _ + _ + _ + _ = s.length; omega) rfl)
  unfold headR
  simp only
  rw [w1]
  simp only
  rw [w2]
  simp only
  rw [w3]
  simp only
  by_cases c : (rest.length : Int) < (m : Int)
  · rw [if_pos (.inr (.inr c)), if_pos c]
  · rw [if_neg (by rintro (e | e | e); exact absurd rfl e; exact absurd e (Nat.lt_irrefl _); exact c e), if_neg c]
theorem readT_recs {gen many : Int} {base : List Int} {l : List (List Int)} {rest : List Int} (hb : Bs ((headB gen many base :: l).flatMap sealP ++ rest)) (hh : (headB gen many base).length ≤ 8192) (hl : ∀ d ∈ l, d.length ≤ 8192) (he : (openP rest).2.2 ≠ 0) (hg : 1 ≤ gen ∧ gen ≤ 1099511627776) (hm : 0 ≤ many ∧ many ≤ 1099511627776) (hbl : base.length ≤ 8176) :
    readT ((headB gen many base :: l).flatMap sealP ++ rest) = if (l.length : Int) < many then (noReel, true) else (⟨gen, base, l⟩, decide (0 < rest.length)) := by
  unfold readT
  rw [allP_recs hb (fun d hd => (List.mem_cons.1 hd).elim (fun e => e ▸ hh) (hl d)) he]
  simp only
  rw [headR_head l hg hm hbl]
  by_cases c : (l.length : Int) < many
  · rw [if_pos c, if_pos c]
  · rw [if_neg c, if_neg c]
    simp only
    rw [List.length_append]
    refine Prod.ext rfl ?_
    show decide (_ < _ + rest.length) = _
    exact decide_eq_decide.2 ⟨fun h => by omega, fun h => by omega⟩
theorem readT_none {rest : List Int} (he : (openP rest).2.2 ≠ 0) (hb : Bs rest) : readT rest = (noReel, decide (0 < rest.length)) := by
  have := allP_recs (ls := []) (rest := rest) (by simpa using hb) (fun d hd => by cases hd) he
  simp only [List.flatMap_nil, List.nil_append] at this
  unfold readT
  rw [this]
theorem readT_nil : readT [] = (noReel, false) := readT_none open_nil (fun x hx => by cases hx)
end Go.Proofs.Ytehjbhnlbjbhfaa.Tp
-- TpT
namespace Go.Proofs.Ytehjbhnlbjbhfaa.Tp
open Go Go.RowKit Go.Proofs.YtehjbhnlbjbhfaaW.PrintWords Go.Proofs.YtehjbhnlbjbhfaaW.PrintLast Go.Proofs.YtehjbhnlbjbhfaaW.PrintMore Go.Proofs.Ytehjbhnlbjbhfaa.Wire Go.Proofs.Ytehjbhnlbjbhfaa.Wk Go.Proofs.Ytehjbhnlbjbhfaa.Dk
set_option linter.unusedVariables false
structure Calm (s : DS) : Prop where
  room : s.room ≠ 0
  on : s.off = false
  set : s.set = false
  len : s.fs.length = 8
theorem Calm.setF {s : DS} (h : Calm s) (i : Nat) (f : Fl) : Calm (setF s i f) := ⟨h.room, h.on, h.set, by show (s.fs.set i f).length = 8; rw [List.length_set]; exact h.len⟩
theorem calm_act {s : DS} (h : Calm s) (n : Nat) (done : DS → Nat → DS) : actP s n done = (done s n, 0) := by
  unfold actP struckP burnS burnN
  rw [h.set]
  simp
theorem calm_append {s : DS} (h : Calm s) {j : Nat} (hj : j < 8) (b : List Int) : appendP s (j : Int) b = if s.room < (usedP s : Int) + (b.length : Int) then (s, 7) else (setF s j ⟨(fl s j).seen ++ b, (fl s j).lasts, (fl s j).cl⟩, 0) := by
  unfold appendP
  rw [if_neg (fun e => e (able_on hj h.room h.on)), calm_act h, Int.toNat_natCast]
  unfold doneA
  rw [List.take_length]
theorem calm_clear {s : DS} (h : Calm s) {j : Nat} (hj : j < 8) : clearP s (j : Int) = (setF s j ⟨[], (fl s j).lasts, true⟩, 0) := by
  unfold clearP
  rw [if_neg (fun e => e (able_on hj h.room h.on)), calm_act h, Int.toNat_natCast]
  unfold doneC
  rw [if_pos rfl]
theorem calm_sync {s : DS} (h : Calm s) {j : Nat} (hj : j < 8) : syncP s (j : Int) = (setF s j ⟨(fl s j).seen, (fl s j).seen, false⟩, 0) := by
  unfold syncP
  rw [if_neg (fun e => e (able_on hj h.room h.on)), calm_act h, Int.toNat_natCast]
  unfold doneY
  rw [if_pos rfl]
theorem headB_bs {gen many : Int} {base : List Int} (hg : 0 ≤ gen ∧ gen < 18446744073709551616) (hm : 0 ≤ many ∧ many < 18446744073709551616) (hb : Bs base) (hl : base.length < 18446744073709551616) : Bs (headB gen many base) := by
  refine (encs_bs ?_).app (rec_bs hb hl)
  intro x hx
  rcases List.mem_cons.1 hx with rfl | hx
  · exact hg
  · rcases List.mem_cons.1 hx with rfl | hx
    · exact hm
    · cases hx
theorem flat_bs {ls : List (List Int)} (h : ∀ d ∈ ls, Bs d ∧ d.length ≤ 8192) : Bs (ls.flatMap sealP) := by
  intro x hx
  obtain ⟨d, hd, hx⟩ := List.mem_flatMap.1 hx
  exact seal_bs (h d hd).1 (by have := (h d hd).2; omega) x hx
theorem tooLong_not {l : List (List Int)} (h : ¬ tooLong l = true) : ∀ d ∈ l, d.length ≤ 8192 := by
  intro d hd
  by_cases c : d.length ≤ 8192
  · exact c
  · refine absurd ?_ h
    unfold tooLong
    rw [List.any_eq_true]
    exact ⟨d, hd, by simpa using c⟩
theorem headE_err {gen many : Int} {base : List Int} (h : (headE gen many base).2 ≠ 0) : (headE gen many base).2 = 4 := by
  unfold headE sealE at *
  split at h
  · rename_i c; rw [if_pos c]
  · exact absurd rfl h
end Go.Proofs.Ytehjbhnlbjbhfaa.Tp
-- TpU
namespace Go.Proofs.Ytehjbhnlbjbhfaa.Tp
open Go Go.RowKit Go.Proofs.YtehjbhnlbjbhfaaW.PrintWords Go.Proofs.YtehjbhnlbjbhfaaW.PrintLast Go.Proofs.YtehjbhnlbjbhfaaW.PrintMore Go.Proofs.Ytehjbhnlbjbhfaa.Wire Go.Proofs.Ytehjbhnlbjbhfaa.Wk Go.Proofs.Ytehjbhnlbjbhfaa.Dk
open Go.Proofs.Ytehjbhnlbjbhfaa.PTapePlays
set_option linter.unusedVariables false
set_option linter.unusedSimpArgs false
abbrev TD := S79
def sz (l : List (List Int)) : Nat := (l.map fun d => 4 + d.length).sum
theorem sz_len : ∀ l : List (List Int), 4 * l.length ≤ sz l := by
  intro l
  induction l with
  | nil => exact Nat.le_refl _
  | cons a l ih =>
    have : sz (a :: l) = 4 + a.length + sz l := rfl
    rw [this, List.length_cons]; omega
theorem sz_drop {l : List (List Int)} {j : Nat} (h : j < l.length) : sz (l.drop j) = 4 + (rd_L1 l (j : Int)).length + sz (l.drop (j + 1)) := by
  rw [List.drop_eq_getElem_cons h]
  show 4 + (l[j]).length + _ = _
  unfold rd_L1
  rw [Int.toNat_natCast, List.getD_eq_getElem?_getD, List.getElem?_eq_getElem h]; rfl
structure TSmall (x : TD) : Prop where
  b : x.f2.length ≤ 16384
  keep : x.f4.length ≤ 16384
  many : 4 * x.f3.length ≤ 16384
  l : ∀ d ∈ x.f3, d.length ≤ 16384
  sum : sz x.f3 ≤ 16384
theorem mnn (a : Nat) : 0 ≤ mn (a : Int) 16385 ∧ mn (a : Int) 16385 ≤ 16385 ∧ (mn (a : Int) 16385 ≤ 16384 → a ≤ 16384) := by
  unfold mn
  split <;> omega
theorem mne (a : Nat) : mn (a : Int) 16385 ≤ 16384 → mn (a : Int) 16385 = (a : Int) := by
  unfold mn
  split <;> omega
theorem inner2 (x6 : List TD) (x7 : Nat) (acts : Int) (x9 : List (List TD)) (x10 x11 : Int) (h7 : x7 < x6.length) (hm : x6.length ≤ 9223372036854775807) (hl : (rd_T79 x6 (x7 : Int)).f3.length ≤ 9223372036854775807) : ∀ (d j : Nat) (n : Int), j + d = (rd_T79 x6 (x7 : Int)).f3.length → 0 ≤ n → n ≤ 49154 →
    ∃ n' : Int, n ≤ n' ∧ n' ≤ 49154 ∧ (n' ≤ 16384 → n + (sz ((rd_T79 x6 (x7 : Int)).f3.drop j) : Int) ≤ n' ∧ ∀ q : Nat, j ≤ q → q < (rd_T79 x6 (x7 : Int)).f3.length → (rd_L1 (rd_T79 x6 (x7 : Int)).f3 (q : Int)).length ≤ 16384) ∧
      ∀ k r, towlinelaw06_short.l1 k n' acts x6 ((x7 + 1 : Nat) : Int) x9 x10 x11 = some r → ∃ k', towlinelaw06_short.l2 k' n acts x6 (x7 : Int) (j : Int) x9 x10 x11 = some r := by
  have ew : wrap64 ((x7 : Int) + 1) = ((x7 + 1 : Nat) : Int) := by unfold wrap64; omega
  intro d
  induction d with
  | zero =>
    intro j n hj h1 h2
    refine ⟨n, Int.le_refl _, h2, fun _ => ⟨by rw [List.drop_eq_nil_of_le (by omega)]; show n + 0 ≤ n; omega, fun q hq hq2 => by omega⟩, fun k r h => ⟨k + 1, ?_⟩⟩
    simp only [towlinelaw06_short.l2]
    rw [if_pos (by omega), if_pos (by omega), if_neg (by omega), ew]
    exact h
  | succ d ih =>
    intro j n hj h1 h2
    by_cases cn : n ≤ 16384
    · obtain ⟨p1, p2, p3⟩ := mnn (rd_L1 (rd_T79 x6 (x7 : Int)).f3 (j : Int)).length
      have e1 : wrap64 (n + (4 + mn ((rd_L1 (rd_T79 x6 (x7 : Int)).f3 (j : Int)).length : Int) 16385)) = n + (4 + mn ((rd_L1 (rd_T79 x6 (x7 : Int)).f3 (j : Int)).length : Int) 16385) := by unfold wrap64; omega
      have e3 : wrap64 ((j : Int) + 1) = ((j + 1 : Nat) : Int) := by unfold wrap64; omega
      obtain ⟨n', a1, a2, a3, a4⟩ := ih (j + 1) (n + (4 + mn ((rd_L1 (rd_T79 x6 (x7 : Int)).f3 (j : Int)).length : Int) 16385)) (by omega) (by omega) (by omega)
      refine ⟨n', by omega, a2, fun b => ⟨by have := (a3 b).1; have e9 := mne _ (show mn ((rd_L1 (rd_T79 x6 (x7 : Int)).f3 (j : Int)).length : Int) 16385 ≤ 16384 by omega); rw [sz_drop (by omega)]; omega, fun q hq hq2 => ?_⟩, fun k r h => ?_⟩
      · by_cases e : q = j
        · subst e; exact p3 (by omega)
        · exact (a3 b).2 q (by omega) hq2
      · obtain ⟨k', hk⟩ := a4 k r h
        refine ⟨k' + 1, ?_⟩
        simp only [towlinelaw06_short.l2]
        rw [if_pos (by omega), if_pos (by omega), if_pos (by omega), if_pos cn, if_pos (by omega), e1, e3]
        exact hk
    · refine ⟨n, Int.le_refl _, h2, fun b => absurd b cn, fun k r h => ⟨k + 1, ?_⟩⟩
      simp only [towlinelaw06_short.l2]
      rw [if_pos (by omega), if_pos (by omega), if_pos (by omega), if_neg cn, ew]
      exact h
theorem inner1 (x9 : List (List TD)) (x10 x11 : Int) (l : List TD) (hl : l.length ≤ 9223372036854775807) (hl3 : ∀ x ∈ l, x.f3.length ≤ 9223372036854775807) : ∀ (d i : Nat) (n acts : Int), i + d = l.length → 0 ≤ n → n ≤ 49154 → 0 ≤ acts → acts ≤ 61 →
    ∃ n' acts' : Int, n ≤ n' ∧ n' ≤ 49154 ∧ acts ≤ acts' ∧ acts' ≤ 61 ∧ (n' ≤ 16384 → acts' ≤ 60 → acts + (d : Int) ≤ acts' ∧ ∀ j, i ≤ j → j < l.length → TSmall (rd_T79 l (j : Int))) ∧
      ∀ k r, towlinelaw06_short.l0 k n' acts' x9 x10 (wrap64 (x11 + 1)) = some r → ∃ k', towlinelaw06_short.l1 k' n acts l (i : Int) x9 x10 x11 = some r := by
  intro d
  induction d with
  | zero =>
    intro i n acts hi h1 h2 h3 h4
    refine ⟨n, acts, Int.le_refl _, h2, Int.le_refl _, h4, fun _ _ => ⟨by omega, fun j hj hj2 => by omega⟩, fun k r h => ⟨k + 1 + 1, ?_⟩⟩
    simp only [towlinelaw06_short.l1]
    rw [if_neg (by omega)]
    simp only [towlinelaw06_short.j2]
    rw [if_neg (by decide)]
    exact h
  | succ d ih =>
    intro i n acts hi h1 h2 h3 h4
    by_cases ca : acts ≤ 60
    · by_cases cn : n ≤ 16384
      · obtain ⟨p1, p2, p3⟩ := mnn (rd_T79 l (i : Int)).f2.length
        obtain ⟨q1, q2, q3⟩ := mnn (rd_T79 l (i : Int)).f4.length
        have e1 : wrap64 (n + (mn ((rd_T79 l (i : Int)).f2.length : Int) 16385 + mn ((rd_T79 l (i : Int)).f4.length : Int) 16385)) = n + (mn ((rd_T79 l (i : Int)).f2.length : Int) 16385 + mn ((rd_T79 l (i : Int)).f4.length : Int) 16385) := by unfold wrap64; omega
        have e2 : wrap64 (acts + 1) = acts + 1 := by unfold wrap64; omega
        have hmem : rd_T79 l (i : Int) ∈ l := by
          unfold rd_T79
          rw [Int.toNat_natCast, List.getD_eq_getElem?_getD, List.getElem?_eq_getElem (by omega)]
          exact List.getElem_mem _
        obtain ⟨n2, b1, b2, b3, b4⟩ := inner2 l i (acts + 1) x9 x10 x11 (by omega) hl (hl3 _ hmem) (rd_T79 l (i : Int)).f3.length 0 (n + (mn ((rd_T79 l (i : Int)).f2.length : Int) 16385 + mn ((rd_T79 l (i : Int)).f4.length : Int) 16385)) (by omega) (by omega) (by omega)
        obtain ⟨n', acts', a1, a2, a3, a4, a5, a6⟩ := ih (i + 1) n2 (acts + 1) (by omega) (by omega) b2 (by omega) (by omega)
        refine ⟨n', acts', by omega, a2, by omega, a4, fun c1 c2 => ⟨by have := (a5 c1 c2).1; omega, fun j hj hj2 => ?_⟩, fun k r h => ?_⟩
        · by_cases e : j = i
          · subst e
            obtain ⟨d1, d2⟩ := b3 (by omega)
            have hsz := sz_len (rd_T79 l (j : Int)).f3
            rw [List.drop_zero] at d1
            refine ⟨p3 (by omega), q3 (by omega), by omega, fun x hx => ?_, by omega⟩
            obtain ⟨q, hq, eq⟩ := List.mem_iff_getElem.1 hx
            have := d2 q (Nat.zero_le _) hq
            unfold rd_L1 at this
            rw [Int.toNat_natCast, List.getD_eq_getElem?_getD, List.getElem?_eq_getElem hq] at this
            rw [← eq]; exact this
          · exact (a5 c1 c2).2 j (by omega) hj2
        · obtain ⟨k', hk⟩ := a6 k r h
          obtain ⟨k2, hk2⟩ := b4 k' r hk
          refine ⟨k2 + 1 + 1, ?_⟩
          simp only [towlinelaw06_short.l1]
          rw [if_pos (by omega), if_pos ca, decide_eq_true cn]
          simp only [towlinelaw06_short.j2]
          rw [if_pos trivial, if_pos (by omega), if_pos (by omega), e1, e2]
          exact hk2
      · refine ⟨n, acts, Int.le_refl _, h2, Int.le_refl _, h4, fun b _ => absurd b cn, fun k r h => ⟨k + 1 + 1, ?_⟩⟩
        simp only [towlinelaw06_short.l1]
        rw [if_pos (by omega), if_pos ca, decide_eq_false cn]
        simp only [towlinelaw06_short.j2]
        rw [if_neg (by decide)]
        exact h
    · refine ⟨n, acts, Int.le_refl _, h2, Int.le_refl _, h4, fun _ b => absurd b ca, fun k r h => ⟨k + 1 + 1, ?_⟩⟩
      simp only [towlinelaw06_short.l1]
      rw [if_pos (by omega), if_neg ca]
      simp only [towlinelaw06_short.j2]
      rw [if_neg (by decide)]
      exact h
theorem outer1 (ls : List (List TD)) (hl : ls.length ≤ 9223372036854775807) (hl2 : ∀ l ∈ ls, l.length ≤ 9223372036854775807 ∧ ∀ x ∈ l, x.f3.length ≤ 9223372036854775807) : ∀ (d i : Nat) (n acts : Int), i + d = ls.length → 0 ≤ n → n ≤ 49154 → 0 ≤ acts → acts ≤ 61 →
    ∃ k r, towlinelaw06_short.l0 k n acts ls (ls.length : Int) (i : Int) = some r ∧ (r = true → n ≤ 16384 ∧ acts ≤ 60 ∧ ∀ j, i ≤ j → j < ls.length → (rd_L8 ls (j : Int)).length ≤ 60 ∧ ∀ m, m < (rd_L8 ls (j : Int)).length → TSmall (rd_T79 (rd_L8 ls (j : Int)) (m : Int))) := by
  intro d
  induction d with
  | zero =>
    intro i n acts hi h1 h2 h3 h4
    by_cases ca : acts ≤ 60
    · refine ⟨1, decide (n ≤ 16384), ?_, fun e => ⟨of_decide_eq_true e, ca, fun j hj hj2 => by omega⟩⟩
      simp only [towlinelaw06_short.l0]
      rw [if_neg (by omega), if_pos ca]
    · refine ⟨1, false, ?_, fun e => by cases e⟩
      simp only [towlinelaw06_short.l0]
      rw [if_neg (by omega), if_neg ca]
  | succ d ih =>
    intro i n acts hi h1 h2 h3 h4
    have hm : rd_L8 ls (i : Int) ∈ ls := by
      unfold rd_L8
      rw [Int.toNat_natCast, List.getD_eq_getElem?_getD, List.getElem?_eq_getElem (by omega)]
      exact List.getElem_mem _
    obtain ⟨n', acts', a1, a2, a3, a4, a5, a6⟩ := inner1 ls (ls.length : Int) (i : Int) (rd_L8 ls (i : Int)) (hl2 _ hm).1 (hl2 _ hm).2 (rd_L8 ls (i : Int)).length 0 n acts (Nat.zero_add _) h1 h2 h3 h4
    have e3 : wrap64 ((i : Int) + 1) = ((i + 1 : Nat) : Int) := by unfold wrap64; omega
    rw [e3] at a6
    obtain ⟨k, r, b1, b2⟩ := ih (i + 1) n' acts' (by omega) (by omega) a2 (by omega) a4
    obtain ⟨k', hk⟩ := a6 k r b1
    refine ⟨k' + 1, r, ?_, fun e => ?_⟩
    · simp only [towlinelaw06_short.l0]
      rw [if_pos (by omega), if_pos (by omega), if_pos (by omega)]
      exact hk
    · obtain ⟨c1, c2, c3⟩ := b2 e
      obtain ⟨d1, d2⟩ := a5 c1 c2
      refine ⟨by omega, by omega, fun j hj hj2 => ?_⟩
      by_cases e : j = i
      · subst e; exact ⟨by omega, fun m hm2 => d2 m (Nat.zero_le _) hm2⟩
      · exact c3 j (by omega) hj2
theorem tshort_says (ls : List (List TD)) (hl : ls.length ≤ 9223372036854775807) (hl2 : ∀ l ∈ ls, l.length ≤ 9223372036854775807 ∧ ∀ x ∈ l, x.f3.length ≤ 9223372036854775807) :
    ∃ k r, towlinelaw06_short.f k ls = some r ∧ (r = true → ∀ l ∈ ls, l.length ≤ 60 ∧ ∀ x ∈ l, TSmall x) := by
  obtain ⟨k, r, h1, h2⟩ := outer1 ls hl hl2 ls.length 0 0 0 (by omega) (by omega) (by omega) (by omega) (by omega)
  refine ⟨k, r, h1, fun e => ?_⟩
  obtain ⟨_, _, h3⟩ := h2 e
  intro l hl
  obtain ⟨j, hj, ej⟩ := List.mem_iff_getElem.1 hl
  have e1 : rd_L8 ls (j : Int) = l := by
    unfold rd_L8
    rw [Int.toNat_natCast, List.getD_eq_getElem?_getD, List.getElem?_eq_getElem hj, ← ej]; rfl
  have h4 := h3 j (Nat.zero_le _) hj
  rw [e1] at h4
  refine ⟨h4.1, fun x hx => ?_⟩
  obtain ⟨m, hm, em⟩ := List.mem_iff_getElem.1 hx
  have e2 : rd_T79 l (m : Int) = x := by
    unfold rd_T79
    rw [Int.toNat_natCast, List.getD_eq_getElem?_getD, List.getElem?_eq_getElem hm, ← em]; rfl
  rw [← e2]; exact h4.2 m hm
theorem tlists_C {W : World} {g : Nat} {t : TypeId} {fr : Nat × Nat} {cs : List Value} {ls : List (List TD)} (hg : W.heap[g]? = some (.cells cs.toArray t fr)) (hm : ls.length ≤ 9223372036854775807)
    (h : ∀ (j : Nat) (l : List TD), ls[j]? = some l → ∃ A c, cs[j]? = some (Value.slice A l.length c) ∧ l.length ≤ c ∧ k79.C W A l.length l) : Kd.C (Kd.slice 79 k79) W (some ⟨g, 0, none⟩) ls.length ls := by
  refine ⟨rfl, hm, fun _ => ⟨_, rfl, fun j l hj => ?_⟩⟩
  obtain ⟨A, c, h1, h2, h3⟩ := h j l hj
  refine ⟨[Value.slice A l.length c], rfl, ⟨A, c, rfl, h2, h3⟩, fun i u hi => ?_⟩
  have hi0 : i = 0 := by
    have := (List.getElem?_eq_some_iff.1 hi).1
    simp at this; exact this
  subst hi0
  injection hi with hi
  subst hi
  have ha : (⟨g, 0, none⟩ : Addr).add (j * (Kd.slice 79 k79).sz + 0) = ⟨g, j, none⟩ := by
    rw [add_at, show (Kd.slice 79 k79).sz = 1 from rfl]; simp
  rw [ha, cell_of_row W g j _ t fr hg, List.getElem?_toArray, h1]
theorem td_max {w : World} {A : Option Addr} {l : List TD} (h : k79.C w A l.length l) : l.length ≤ 9223372036854775807 ∧ ∀ x ∈ l, x.f3.length ≤ 9223372036854775807 := by
  refine ⟨Kd.C_max h, fun x hx => ?_⟩
  obtain ⟨m, hm, em⟩ := List.mem_iff_getElem.1 hx
  obtain ⟨ad, A2, c2, A3, c3, A4, c4, _, _, _, _, _, _, _, _, _, h3, _⟩ := at_T79 h (m : Int) (by omega) (by omega)
  have e2 : rd_T79 l (m : Int) = x := by
    unfold rd_T79
    rw [Int.toNat_natCast, List.getD_eq_getElem?_getD, List.getElem?_eq_getElem hm, ← em]; rfl
  rw [e2] at h3
  exact Kd.C_max h3
theorem tshort1 (l : List TD) (A : Option Addr) (c : Nat) (w : World) (hC : k79.C w A l.length l) (hc : l.length ≤ c) : ∃ r : Bool, (r = true → l.length ≤ 60 ∧ ∀ x ∈ l, TSmall x) ∧
    Calls Try.prog 37 #[.slice (some ⟨w.heap.size, 0, none⟩) 1 1] (w.alloc (.cells #[.slice A l.length c] 75)) fun e w' => e = .returned (.bool r) ∧ Below w.heap.size w w' := by
  obtain ⟨k, r, h1, h2⟩ := tshort_says [l] (by simp) (fun x hx => by rw [List.mem_singleton.1 hx]; exact td_max hC)
  refine ⟨r, fun e => h2 e l (List.mem_singleton.2 rfl), ?_⟩
  refine (towlinelaw06_short.calls k _ 1 [l] r _ (tlists_C (cs := [.slice A l.length c]) (blk_new w (.cells #[.slice A l.length c] 75)) (by simp) ?_) (Nat.le_refl _) h1).mono ?_
  · intro j m hj
    match j, hj with
    | 0, hj =>
      injection hj with hj
      subst hj
      exact ⟨A, c, rfl, hc, Kd.C_below hC (below_alloc (Below.refl _ _) _)⟩
  · rintro e w' ⟨rfl, hb⟩
    exact ⟨rfl, below_step (below_alloc (Below.refl _ _) _) hb⟩
def wfT (n : Int) : Prop := (Lit.int .i64 n).wf = true
def GTD (x : TD) : Prop := wfT x.f0 ∧ wfT x.f1 ∧ (∀ y ∈ x.f2, (Lit.int .u8 y).wf = true) ∧ (∀ d ∈ x.f3, ∀ y ∈ d, (Lit.int .u8 y).wf = true) ∧ (∀ y ∈ x.f4, wfT y)
theorem opensTD {H : Type} {enc : TypeId × Value → H} {W : World} : Op.Opens enc Try.prog W k79 GTD 79 :=
  Op.opens_iso (Op.opens_struct (d := Kd.pair (Kd.int .i64) (Kd.pair (Kd.int .i64) (Kd.pair (Kd.slice 5 (Kd.int .u8)) (Kd.pair (Kd.slice 32 (Kd.slice 5 (Kd.int .u8))) (Kd.slice 3 (Kd.int .i64)))))) Try.underlying79 (by kernel_rfl)
    (Op.fields_cons rfl (Op.opens_int Try.underlying3 (by kernel_rfl)) (Op.fields_cons rfl (Op.opens_int Try.underlying3 (by kernel_rfl)) (Op.fields_cons rfl (Op.opens_slice Try.underlying32 (by kernel_rfl) (Op.opens_int Try.underlying5 (by kernel_rfl))) (Op.fields_cons rfl (Op.opens_slice Try.underlying46 (by kernel_rfl) (Op.opens_slice Try.underlying32 (by kernel_rfl) (Op.opens_int Try.underlying5 (by kernel_rfl)))) (Op.fields_one rfl (Op.opens_slice Try.underlying33 (by kernel_rfl) (Op.opens_int Try.underlying3 (by kernel_rfl)))))))))
    (fun x : TD => (x.f0, x.f1, x.f2, x.f3, x.f4)) (fun p => ⟨p.1, p.2.1, p.2.2.1, p.2.2.2.1, p.2.2.2.2⟩) (fun _ => rfl)
theorem bs_wf {l : List Int} (h : ∀ y ∈ l, (Lit.int .u8 y).wf = true) : Bs l := fun x hx => wf_u8 (h x hx)
end Go.Proofs.Ytehjbhnlbjbhfaa.Tp
-- TpP
namespace Go.Proofs.Ytehjbhnlbjbhfaa.Tp
open Go Go.RowKit Go.Proofs.YtehjbhnlbjbhfaaW.PrintWords Go.Proofs.YtehjbhnlbjbhfaaW.PrintLast Go.Proofs.YtehjbhnlbjbhfaaW.PrintMore Go.Proofs.Ytehjbhnlbjbhfaa.Wire Go.Proofs.Ytehjbhnlbjbhfaa.Wk Go.Proofs.Ytehjbhnlbjbhfaa.Dk
set_option linter.unusedVariables false
set_option linter.unusedSimpArgs false
def ax1 : TS := (putP bx bs0 [97]).1
def as1 : DS := (putP bx bs0 [97]).2.1
def ax2 : TS := (syncT ax1 as1).1
def as2 : DS := (syncT ax1 as1).2.1
def ax3 : TS := (putP ax2 as2 [98]).1
def as3 : DS := (putP ax2 as2 [98]).2.1
def as4 : DS := (crashP as3 []).1
def as5 : DS := (startP as4).1
def ax6 : TS := ((openT as5).1).getD bx
def as6 : DS := (openT as5).2.1
def ax7 : TS := (saveP ax6 as6 [120] []).1
def as7 : DS := (saveP ax6 as6 [120] []).2.1
theorem ta1 : putP bx bs0 [97] = (ax1, as1, 0) := by kernel_rfl
theorem ta2 : syncT ax1 as1 = (ax2, as2, 0) := by kernel_rfl
theorem ta3 : putP ax2 as2 [98] = (ax3, as3, 0) := by kernel_rfl
theorem tk3 : ax3.kept = 1 := by kernel_rfl
theorem ta4 : crashP as3 [] = (as4, 0) := by kernel_rfl
theorem ta5 : startP as4 = (as5, 0) := by kernel_rfl
theorem ta6 : openT as5 = (some ax6, as6, 0) := by kernel_rfl
theorem tl6 : ax6.r.l = [[97]] := by kernel_rfl
theorem tg6 : (0 ≤ ax6.r.gen ∧ ax6.r.gen < 9223372036854775807) ∧ ax6.file ≤ 1 := by
  have h1 : ax6.r.gen = 1 := by kernel_rfl
  have h2 : ax6.file = 0 := by kernel_rfl
  rw [h1, h2]; decide
theorem ta7 : saveP ax6 as6 [120] [] = (ax7, as7, 0) := by kernel_rfl
theorem tb7 : ax7.r.base = [120] ∧ ax7.r.l = [] := ⟨by kernel_rfl, by kernel_rfl⟩
theorem tl3 : bx.r.l.length = 0 ∧ ax2.r.l.length = 1 := ⟨by kernel_rfl, by kernel_rfl⟩
theorem tok0 : Okk bs0 := openT_okk (newP_okk 2097152 (by decide))
theorem tok1 : Okk as1 := putP_okk tok0 _ _
theorem tok2 : Okk as2 := syncT_okk tok1 _
theorem tok3 : Okk as3 := putP_okk tok2 _ _
theorem tok4 : Okk as4 := tok3.crash _
theorem tok5 : Okk as5 := tok4.start
theorem tok6 : Okk as6 := openT_okk tok5
end Go.Proofs.Ytehjbhnlbjbhfaa.Tp
