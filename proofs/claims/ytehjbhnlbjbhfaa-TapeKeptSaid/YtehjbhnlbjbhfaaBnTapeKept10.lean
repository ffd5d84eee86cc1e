/- Texts that the row of LawTapeKept rests on, part 10 of 12: contracts of the functions, their walks, plain laws. -/
import Derived.Test.YtehjbhnlbjbhfaaBnTapeKept9
import Derived.Lib.SmallJoins
import Derived.IntWalk
import Derived.Laws.IdiomStrings
import Derived.Lib.Strings
-- TpQ
namespace Go.Proofs.Ytehjbhnlbjbhfaa.Tp
open Go Go.RowKit Go.Proofs.YtehjbhnlbjbhfaaW.PrintWords Go.Proofs.YtehjbhnlbjbhfaaW.PrintLast Go.Proofs.YtehjbhnlbjbhfaaW.PrintMore Go.Proofs.Ytehjbhnlbjbhfaa.Wire Go.Proofs.Ytehjbhnlbjbhfaa.Wk Go.Proofs.Ytehjbhnlbjbhfaa.Dk
open Go.Proofs.Ytehjbhnlbjbhfaa.PTapePlays
set_option linter.unusedVariables false
set_option linter.unusedSimpArgs false
theorem Ws.al {P : Nat → Prop} {w w1 : World} {o : Obj} (h : Ws P (w.alloc o) w1) : Ws P w w1 := (Ws.of_below (below_alloc (Below.refl _ _) o)).trans (h.mono (fun _ _ hp => hp))
theorem bs_one (c : Int) (h : 0 ≤ c ∧ c < 256) : Bs [c] := fun x hx => by simp at hx; subst hx; exact h
theorem one_row {G : Nat → Prop} (W : World) (c : Int) (hG : ∀ b, G b → b < W.heap.size) : Rw G .u8 (W.alloc (.cells #[.int .u8 c] 5 (1, 2))) (.slice (some ⟨W.heap.size, 0, none⟩) 1 1) [c] := lit_row .u8 W [c] 5 (1, 2) hG (by simp)
theorem one_string (W : World) (s : ByteArray) : Kd.C Kd.string (W.alloc (.cells #[.string s] 9)) (some ⟨W.heap.size, 0, none⟩) 1 [s] := by
  refine ⟨rfl, by decide, fun _ => ⟨⟨W.heap.size, 0, none⟩, rfl, fun j p hj => ?_⟩⟩
  have : j = 0 := by have := (List.getElem?_eq_some_iff.1 hj).1; simp at this; omega
  subst this
  simp at hj
  subst hj
  refine ⟨[.string s], rfl, rfl, fun q u hq => ?_⟩
  have : q = 0 := by have := (List.getElem?_eq_some_iff.1 hq).1; simp at this; omega
  subst this
  simp at hq
  subst hq
  rw [add_plain]
  simp
theorem abs5 : BsD as5 := by
  have h : (as5.fs.all fun f => (f.seen.all fun x => decide (0 ≤ x ∧ x < 256)) && f.lasts.all fun x => decide (0 ≤ x ∧ x < 256)) = true := by kernel_rfl
  intro f hf
  have := List.all_eq_true.1 h f hf
  rw [Bool.and_eq_true, List.all_eq_true, List.all_eq_true] at this
  exact ⟨fun x hx => of_decide_eq_true (this.1 x hx), fun x hx => of_decide_eq_true (this.2 x hx)⟩
set_option maxHeartbeats 8000000 in
set_option maxRecDepth 100000 in
theorem awake_calls (w : World) : Calls Try.prog 31 #[] w fun e w' => e = .returned (.bool true) ∧ Below w.heap.size w w' := by
  go_enter Try.func31, Try.ntmps31
  go_wp2_with (fail)
  refine (begun_calls _).mono ?_
  rintro e w1 ⟨b, t, rfl, hb, ht, hD, hT, hB⟩
  obtain ⟨G, hG⟩ : ∃ G : Nat → Prop, (fun k => k = b ∨ k = t) = G := ⟨_, rfl⟩
  rw [hG] at hD hT
  have HGS := Aside0.mk (show ∀ k, TG t b k → w.heap.size ≤ k by rintro k (rfl | rfl); exact ht; exact hb)
  have HD := Aside0.mk hD
  have HT := Aside0.mk hT
  have HB := Aside0.mk hB
  clear hb ht hD hT hB
  have hcv1 : (convert 32 32 (.slice (some ⟨w1.heap.size, 0, none⟩) 1 1)).run Try.prog (w1.alloc (.cells #[.int .u8 97] 5)) = .ok (.slice (some ⟨w1.heap.size, 0, none⟩) 1 1) (w1.alloc (.cells #[.int .u8 97] 5 (1, 2))) := Go.Joins.run_convert_bytes_const_at w1 32 5 #[.int .u8 97] 1 1 w1.heap.size rfl Try.underlying32 Try.underlying5
  go_wp2_with (fail)
  refine (TPut_calls G t b bx bs0 _ [97] _ (HT.out.al _) (HD.out.al _) tok0 (one_row w1 97 HD.out.lt) (bs_one 97 (by decide)) (by decide) (by decide)).mono ?_
  rw [ta1]
  rintro e w2 ⟨rfl, hT2, hD2, hW2⟩
  have HT2 := Aside0.mk hT2
  have HD2 := Aside0.mk hD2
  have HB2 := Aside0.mk (hW2.al.below HB.out HGS.out)
  clear hT2 hD2 hW2 HT HD HB
  go_wp2_with (fail)
  refine (TSync_calls G t b ax1 as1 _ HT2.out HD2.out tok1).mono ?_
  rw [ta2]
  rintro e w3 ⟨rfl, hT3, hD3, hW3⟩
  have HT3 := Aside0.mk hT3
  have HD3 := Aside0.mk hD3
  have HB3 := Aside0.mk (hW3.below HB2.out HGS.out)
  clear hT3 hD3 hW3 HT2 HD2 HB2
  have hcv3 : (convert 32 32 (.slice (some ⟨w3.heap.size, 0, none⟩) 1 1)).run Try.prog (w3.alloc (.cells #[.int .u8 98] 5)) = .ok (.slice (some ⟨w3.heap.size, 0, none⟩) 1 1) (w3.alloc (.cells #[.int .u8 98] 5 (1, 2))) := Go.Joins.run_convert_bytes_const_at w3 32 5 #[.int .u8 98] 1 1 w3.heap.size rfl Try.underlying32 Try.underlying5
  go_wp2_with (fail)
  refine (TPut_calls G t b ax2 as2 _ [98] _ (HT3.out.al _) (HD3.out.al _) tok2 (one_row w3 98 HD3.out.lt) (bs_one 98 (by decide)) (by decide) (by rw [tl3.2]; decide)).mono ?_
  rw [ta3]
  rintro e w4 ⟨rfl, hT4, hD4, hW4⟩
  have HT4 := Aside0.mk hT4
  have HD4 := Aside0.mk hD4
  have HB4 := Aside0.mk (hW4.al.below HB3.out HGS.out)
  clear hT4 hD4 hW4 HT3 HD3 HB3
  go_wp2_with (fail)
  refine (Kept_calls G t b ax3 _ HT4.out).mono ?_
  rw [tk3]
  rintro e w5 ⟨rfl, ⟨n5, rfl⟩⟩
  have HK5 := Aside0.mk (HD4.out.drN n5)
  have HB5 := Aside0.mk (pw_below_drewN HB4.out n5)
  clear HT4 HD4 HB4
  go_wp2_with (fail)
  refine (Crash_calls G b as3 (.slice none 0 0) [] _ HK5.out tok3 (Rw.nil _ _ _) (fun x hx => by cases hx)).mono ?_
  rw [ta4]
  rintro e w6 ⟨rfl, hD6, hW6⟩
  have HD6 := Aside0.mk hD6
  have HB6 := Aside0.mk ((Ws.of_wr (P := TG t b) hW6 (.inr rfl)).below HB5.out HGS.out)
  clear hD6 hW6 HK5 HB5
  go_wp2_with (fail)
  refine (Start_calls G b as4 _ HD6.out).mono ?_
  rw [ta5]
  rintro e w7 ⟨rfl, hD7, hW7⟩
  have HD7 := Aside0.mk hD7
  have HB7 := Aside0.mk ((Ws.of_wr (P := TG t b) hW7 (.inr rfl)).below HB6.out HGS.out)
  clear hD7 hW7 HD6 HB6
  go_wp2_with (fail)
  refine (Open_calls G b as5 _ HD7.out tok5 abs5).mono ?_
  rw [ta6]
  rintro e w8 ⟨p, rfl, hD8, hW8, hp, hT8⟩
  subst hp
  obtain ⟨t2, ht2⟩ : ∃ t2, w7.heap.size = t2 := ⟨_, rfl⟩
  rw [ht2] at hD8 hT8
  have HG2 := Aside0.mk (show ∀ k, TG t2 b k → w.heap.size ≤ k by
    rintro k (rfl | rfl)
    · rw [← ht2]; exact HB7.out.size
    · exact HGS.out _ (.inr rfl))
  have HD8 := Aside0.mk hD8
  have HT8 := Aside0.mk hT8
  have HB8 := Aside0.mk ((hW8.mono (P' := TG t2 b) (fun k _ e => .inr e)).below HB7.out HG2.out)
  clear hD8 hT8 hW8 HD7 HB7
  go_wp2_with (fail)
  refine (records_calls _ t2 b ax6 _ HT8.out (by rw [tl6]; decide) (by rw [tl6]; decide)).mono ?_
  rintro e w9 ⟨v, rfl, hR9, hB9⟩
  obtain ⟨A9, c9, rfl⟩ := Kd.R_slice hR9
  have HR9 := Aside0.mk (show Kd.C Kd.string w9 A9 1 [strOfNums [97]] ∧ 1 ≤ c9 by
    have h1 := Kd.R_reads' hR9
    rw [tl6] at h1
    exact ⟨h1.2.2, h1.2.1⟩)
  have HLN := Aside0.mk (show (ax6.r.l.map strOfNums).length = 1 by rw [tl6]; rfl)
  rw [HLN.out]
  have HT9 := Aside0.mk (HT8.out.below hB9)
  have HD9 := Aside0.mk (HD8.out.below hB9)
  have HB9 := Aside0.mk (below_step HB8.out hB9)
  clear hR9 hB9 HT8 HD8 HB8
  go_wp2_with (fail)
  refine (slices_Equal_string_string.calls 10 A9 c9 [strOfNums [97]] (some ⟨w9.heap.size, 0, none⟩) 1 [⟨#[97]⟩] true _ (Kd.C_alloc HR9.out.1 _) HR9.out.2 (one_string w9 ⟨#[97]⟩) (by decide) (by decide +kernel)).mono ?_
  rintro e w10 ⟨rfl, ⟨n10, rfl⟩⟩
  have hs10 : ((w9.alloc (.cells #[.string ⟨#[97]⟩] 9)).drewN n10).heap.size = w9.heap.size + 1 := by simp
  have HB10 := Aside0.mk (pw_below_drewN (below_alloc (Below.refl w9.heap.size w9) (.cells #[.string ⟨#[97]⟩] 9)) n10)
  have hcv10 : (convert 32 32 (.slice (some ⟨w9.heap.size + 1, 0, none⟩) 1 1)).run Try.prog (((w9.alloc (.cells #[.string ⟨#[97]⟩] 9)).drewN n10).alloc (.cells #[.int .u8 120] 5)) = .ok (.slice (some ⟨w9.heap.size + 1, 0, none⟩) 1 1) (((w9.alloc (.cells #[.string ⟨#[97]⟩] 9)).drewN n10).alloc (.cells #[.int .u8 120] 5 (1, 2))) := Go.Joins.run_convert_bytes_const_at _ 32 5 #[.int .u8 120] 1 1 (w9.heap.size + 1) hs10.symm Try.underlying32 Try.underlying5
  have HROW := Aside0.mk (one_row ((w9.alloc (.cells #[.string ⟨#[97]⟩] 9)).drewN n10) 120 (HD9.out.below HB10.out).lt)
  rw [hs10] at HROW
  have HBA := Aside0.mk (below_alloc HB10.out (.cells #[.int .u8 120] 5 (1, 2)))
  go_wp2_with (fail)
  refine (Save_calls _ t2 b ax6 as6 _ (.slice none 0 0) [120] [] _ (HT9.out.below HBA.out) (HD9.out.below HBA.out) tok6 HROW.out (Rs.nil _ _) ⟨tg6.1, tg6.2, bs_one 120 (by decide), (fun d hd => absurd hd (by simp)), by decide, by decide, by decide⟩).mono ?_
  rw [ta7]
  rintro e w11 ⟨rfl, hT11, hD11, hW11⟩
  have HT11 := Aside0.mk hT11
  have HD11 := Aside0.mk hD11
  have HB11 := Aside0.mk (hW11.below (below_step HB9.out HBA.out) HG2.out)
  clear hT11 hD11 hW11
  go_wp2_with (fail)
  refine (Base_calls _ t2 b ax7 _ HT11.out (by rw [tb7.1]; decide)).mono ?_
  rw [tb7.1]
  rintro e w12 ⟨v, rfl, hR12, hB12⟩
  obtain ⟨A12, c12, rfl⟩ := Kd.R_slice hR12
  have hcv12 := Kd.C_string (P := Try.prog) (A := A12) (c := c12) Try.underlying32 Try.underlying5 Try.underlying9 (Kd.R_reads' hR12).2.2
  rw [show ([120] : List Int).length = 1 from rfl] at hcv12 ⊢
  have HT12 := Aside0.mk (HT11.out.below hB12)
  have HB12 := Aside0.mk (below_step HB11.out hB12)
  clear hR12 hB12
  have hx12 : (strOfNums [120] == (⟨#[120]⟩ : ByteArray)) = true := by decide +kernel
  have hy12 : decide (strOfNums [120] = (⟨#[120]⟩ : ByteArray)) = true := by decide +kernel
  have hz12 : (strOfNums [120]).toList = [120] := by decide +kernel
  have HLE := Aside0.mk (show Calls Try.prog 27 #[.pointer (some ⟨t2, 0, none⟩)] w12 fun e w' => e = .returned (.int .i64 0) ∧ Drawn0 w12 w' by
    have := Len_calls _ t2 b ax7 _ HT12.out
    rw [tb7.2] at this
    exact this)
  go_wp2_with (fail)
  refine HLE.out.mono ?_
  rintro e w13 ⟨rfl, ⟨n13, rfl⟩⟩
  go_wp2
  go_ret
  exact ⟨rfl, pw_below_drewN HB12.out n13⟩
end Go.Proofs.Ytehjbhnlbjbhfaa.Tp
-- TpV
namespace Go.Proofs.Ytehjbhnlbjbhfaa.Tp
open Go Go.RowKit Go.Proofs.YtehjbhnlbjbhfaaW.PrintWords Go.Proofs.YtehjbhnlbjbhfaaW.PrintLast Go.Proofs.YtehjbhnlbjbhfaaW.PrintMore Go.Proofs.Ytehjbhnlbjbhfaa.Wire Go.Proofs.Ytehjbhnlbjbhfaa.Wk Go.Proofs.Ytehjbhnlbjbhfaa.Dk
open Go.Proofs.Ytehjbhnlbjbhfaa.PTapePlays
set_option linter.unusedVariables false
set_option linter.unusedSimpArgs false
theorem saveP_bsd {s : DS} (h : BsD s) (t : TS) {base : List Int} {l : List (List Int)} (hb : Bs base) (hl : ∀ d ∈ l, Bs d) (hg : 0 ≤ t.r.gen) (hn : l.length ≤ 1099511627776) : BsD (saveP t s base l).2.1 := by
  unfold saveP
  split
  · exact h
  · split
    · exact h
    · split
      · exact h
      · split
        · exact h
        · rename_i c1 c2 c3 c4
          obtain ⟨q1, q2⟩ := headE_zero (Decidable.of_not_not c3)
          have hall : Bs ((headE (t.r.gen + 1) (l.length : Int) base).1 ++ l.flatMap sealP) := by
            rw [q2]
            refine (seal_bs (headB_bs (by omega) (by omega) hb (by omega)) (by omega)).app (flat_bs fun d hd => ⟨hl d hd, tooLong_not c4 d hd⟩)
          unfold saveW
          simp only
          split
          · exact h.clear _
          · split
            · exact (h.clear _).append _ hall
            · split
              · exact ((h.clear _).append _ hall).sync _
              · exact ((h.clear _).append _ hall).sync _
theorem putP_bsd {s : DS} (h : BsD s) (t : TS) {d : List Int} (hd : Bs d) : BsD (putP t s d).2.1 := by
  unfold putP
  split
  · exact h
  · simp only
    have := h.append (t.file : Int) (seal_bs hd (by omega))
    split <;> exact this
theorem syncT_bsd {s : DS} (h : BsD s) (t : TS) : BsD (syncT t s).2.1 := by
  unfold syncT
  simp only
  split <;> exact h.sync _
theorem openT_bsd {s : DS} (hok : Okk s) (h : BsD s) : BsD (openT s).2.1 := by
  have hro := pk_rok h hok.1 2 (by decide)
  rw [pk_two] at hro
  unfold openT
  split
  · exact h
  · simp only
    split
    · split
      · exact saveP_bsd h _ hro.1.bb (fun d hd => (hro.1.bl d hd).1) hro.1.gen.1 (by have := flat_len (picked s).1.r.l; have := hro.1.all; show (picked s).1.r.l.length ≤ _; omega)
      · exact saveP_bsd h _ hro.1.bb (fun d hd => (hro.1.bl d hd).1) hro.1.gen.1 (by have := flat_len (picked s).1.r.l; have := hro.1.all; show (picked s).1.r.l.length ≤ _; omega)
    · exact h
theorem rdT_mem {l : List TD} {i : Nat} (h : i < l.length) : rd_T79 l (i : Int) ∈ l := by
  unfold rd_T79
  rw [Int.toNat_natCast, List.getD_eq_getElem?_getD, List.getElem?_eq_getElem h]
  exact List.getElem_mem _
def eqSt (l m : List ByteArray) : Bool := decide (l.map (·.toList) = m.map (·.toList))
theorem eqSt_self (l : List ByteArray) : eqSt l l = true := by simp [eqSt]
theorem rdOf_drop (l : List ByteArray) {i : Nat} (h : i < l.length) : l.drop i = rdOf ByteArray.empty l (i : Int) :: l.drop (i + 1) := by
  unfold rdOf
  rw [List.drop_eq_getElem_cons h, Int.toNat_natCast, List.getD_eq_getElem?_getD, List.getElem?_eq_getElem h]; rfl
theorem strs_l0 (l m : List ByteArray) (hn : l.length = m.length) (hm : l.length ≤ 9223372036854775807) : ∀ (d i : Nat), i + d = l.length → slices_Equal_string_string.l0 (d + 1) l m (l.length : Int) (i : Int) = some (eqSt (l.drop i) (m.drop i)) := by
  intro d
  induction d with
  | zero =>
    intro i hi
    simp only [slices_Equal_string_string.l0]
    rw [if_neg (by omega), List.drop_eq_nil_of_le (by omega), List.drop_eq_nil_of_le (by omega)]
    rfl
  | succ d ih =>
    intro i hi
    rw [slices_Equal_string_string.l0, if_pos (by omega), if_pos (by omega), if_pos (by omega), if_pos (by omega), rdOf_drop l (by omega), rdOf_drop m (by omega)]
    unfold eqSt
    rw [List.map_cons, List.map_cons]
    by_cases c : (rdOf ByteArray.empty l (i : Int)).toList = (rdOf ByteArray.empty m (i : Int)).toList
    · rw [if_pos c, show wrap64 ((i : Int) + 1) = ((i + 1 : Nat) : Int) by unfold wrap64; omega, ih (i + 1) (by omega), c]
      unfold eqSt
      simp
    · rw [if_neg c]
      simp [c]
theorem strs_eq (l m : List ByteArray) (hm : l.length ≤ 9223372036854775807) : ∃ k, slices_Equal_string_string.f k l m = some (eqSt l m) := by
  unfold slices_Equal_string_string.f
  by_cases c : l.length = m.length
  · refine ⟨l.length + 1, ?_⟩
    rw [if_pos (by omega)]
    have := strs_l0 l m c hm l.length 0 (Nat.zero_add _)
    simpa using this
  · refine ⟨0, ?_⟩
    rw [if_neg (by omega)]
    have : ¬ l.map (·.toList) = m.map (·.toList) := fun e => c (by have := congrArg List.length e; simpa using this)
    simp [eqSt, this]
theorem strs_calls (A0 : Option Addr) (c0 : Nat) (l0 : List ByteArray) (A1 : Option Addr) (c1 : Nat) (l1 : List ByteArray) (w : World) (hr0 : Kd.C Kd.string w A0 l0.length l0) (hc0 : l0.length ≤ c0) (hr1 : Kd.C Kd.string w A1 l1.length l1) (hc1 : l1.length ≤ c1) :
    Calls Try.prog 39 #[.slice A0 l0.length c0, .slice A1 l1.length c1] w fun e w' => e = .returned (.bool (eqSt l0 l1)) ∧ Drawn0 w w' := by
  obtain ⟨k, hk⟩ := strs_eq l0 l1 (Kd.C_max hr0)
  exact slices_Equal_string_string.calls k A0 c0 l0 A1 c1 l1 _ w hr0 hc0 hr1 hc1 hk
structure Bnd (x : TS) (n : Nat) : Prop where
  base : x.r.base.length ≤ 8176
  many : x.r.l.length ≤ n
  l : ∀ d ∈ x.r.l, d.length ≤ 8192
theorem saveP_reel {t : TS} {s : DS} {base : List Int} {l : List (List Int)} (h : (saveP t s base l).2.2 = 0) : (saveP t s base l).1 = ⟨⟨t.r.gen + 1, base, l⟩, 1 - t.file, l.length⟩ ∧ t.r.gen < 1099511627776 ∧ base.length ≤ 8176 ∧ ∀ d ∈ l, d.length ≤ 8192 := by
  unfold saveP at *
  split at h
  · exact absurd h (show ¬ (5 : Int) = 0 by decide)
  · split at h
    · exact absurd h (show ¬ (4 : Int) = 0 by decide)
    · split at h
      · rename_i c; exact absurd h c
      · split at h
        · exact absurd h (show ¬ (4 : Int) = 0 by decide)
        · rename_i c1 c2 c3 c4
          rw [if_neg c1, if_neg c2, if_neg c3, if_neg c4]
          unfold saveW at *
          simp only at *
          split at h
          · rename_i c; exact absurd h c
          · rename_i c5
            rw [if_neg c5]
            split at h
            · rename_i c; exact absurd h c
            · rename_i c6
              rw [if_neg c6]
              split at h
              · rename_i c; exact absurd h c
              · rename_i c7
                rw [if_neg c7]
                exact ⟨rfl, by omega, by omega, tooLong_not c4⟩
theorem openT_some {s s' : DS} {x : TS} {e : Int} (hb : BsD s) (hok : Ok s) (h : openT s = (some x, s', e)) : e = 0 ∧ Bnd x 4194304 ∧ x.file ≤ 1 ∧ x.kept = x.r.l.length ∧ x.r.gen ≤ 1099511627776 ∧ 1 ≤ x.r.gen ∧ Bs x.r.base ∧ ∀ d ∈ x.r.l, Bs d := by
  have hro := pk_rok hb hok 2 (by decide)
  rw [pk_two] at hro
  have hfi : (picked s).1.file ≤ 1 := by rcases pk_ok hb hok 2 with h | h <;> rw [pk_two] at h <;> omega
  have hll : (picked s).1.r.l.length ≤ 4194304 := by
    have := hro.1.all
    have := flat_len (picked s).1.r.l
    omega
  unfold openT at h
  split at h
  · exact absurd h (by simp)
  · simp only at h
    split at h
    · split at h
      · exact absurd h (by simp)
      · rename_i ce
        obtain ⟨q1, q2, q3, q4⟩ := saveP_reel (Decidable.of_not_not ce)
        injection h with e1 e2
        injection e1 with e1
        injection e2 with e2 e3
        rw [← e1, q1]
        exact ⟨e3.symm, ⟨hro.1.base, hll, fun d hd => (hro.1.bl d hd).2⟩, by show 1 - _ ≤ 1; omega, rfl, by show (picked s).1.r.gen + 1 ≤ _; have : (picked s).1.r.gen < _ := q2; omega, by show 1 ≤ (picked s).1.r.gen + 1; have := hro.1.gen.1; omega, hro.1.bb, fun d hd => (hro.1.bl d hd).1⟩
    · rename_i cd
      injection h with e1 e2
      injection e1 with e1
      injection e2 with e2 e3
      rw [← e1]
      have hg : (picked s).1.r.gen ≠ 0 := fun e => cd (.inl e)
      exact ⟨e3.symm, ⟨hro.1.base, hll, fun d hd => (hro.1.bl d hd).2⟩, hfi, rfl, hro.1.gen.2, by show 1 ≤ (picked s).1.r.gen; have := hro.1.gen.1; omega, hro.1.bb, fun d hd => (hro.1.bl d hd).1⟩
theorem sum_set (l : List Nat) {i : Nat} (h : i < l.length) (v : Nat) : (l.set i v).sum + l.getD i 0 = l.sum + v := by
  induction l generalizing i with
  | nil => simp at h
  | cons a l ih =>
    cases i with
    | zero => simp; omega
    | succ i =>
      have := ih (i := i) (by simpa using h)
      simp only [List.set_cons_succ, List.sum_cons, List.getD_cons_succ]
      omega
theorem used_setF (s : DS) {i : Nat} (h : i < s.fs.length) (f : Fl) : usedP (setF s i f) + (fl s i).seen.length = usedP s + f.seen.length := by
  have h1 := sum_set (s.fs.map fun f => f.seen.length) (by rw [List.length_map]; exact h) f.seen.length
  unfold usedP setF
  rw [show (s.fs.set i f).map (fun f => f.seen.length) = (s.fs.map fun f => f.seen.length).set i f.seen.length by rw [List.map_set]]
  have h2 : (s.fs.map fun f => f.seen.length).getD i 0 = (fl s i).seen.length := by
    unfold fl
    rw [List.getD_eq_getElem?_getD, List.getD_eq_getElem?_getD, List.getElem?_map, List.getElem?_eq_getElem h]
    rfl
  rw [h2] at h1
  exact h1
end Go.Proofs.Ytehjbhnlbjbhfaa.Tp
-- TpW
namespace Go.Proofs.Ytehjbhnlbjbhfaa.Tp
open Go Go.RowKit Go.Proofs.YtehjbhnlbjbhfaaW.PrintWords Go.Proofs.YtehjbhnlbjbhfaaW.PrintLast Go.Proofs.YtehjbhnlbjbhfaaW.PrintMore Go.Proofs.Ytehjbhnlbjbhfaa.Wire Go.Proofs.Ytehjbhnlbjbhfaa.Wk Go.Proofs.Ytehjbhnlbjbhfaa.Dk
open Go.Proofs.Ytehjbhnlbjbhfaa.PTapePlays
set_option linter.unusedVariables false
set_option linter.unusedSimpArgs false
def St (G : Nat → Prop) (W : World) (v : Value) (xs : List ByteArray) : Prop := Kd.V Kd.string 0 W 0 (fun b => ¬ G b) v xs
theorem bs0_bsd : BsD bs0 := openT_bsd (newP_okk 2097152 (by decide)) (newP_bs _)
theorem St.slice {G : Nat → Prop} {W : World} {v : Value} {xs : List ByteArray} (h : St G W v xs) : ∃ A c, v = .slice A xs.length c ∧ xs.length ≤ c ∧ Kd.C Kd.string W A xs.length xs := by
  obtain ⟨A, c, rfl⟩ := Kd.V_slice h
  exact ⟨A, c, rfl, (Kd.V_reads' h).2.1, (Kd.V_reads' h).2.2⟩
theorem Rs.came {G : Nat → Prop} {w : World} {A : Option Addr} {c : Nat} {xs : List (List Int)} (h : Kd.C KdB w A xs.length xs) (hc : xs.length ≤ c) (hG : ∀ b, G b → w.heap.size ≤ b) : Rs G w (.slice A xs.length c) xs :=
  Kd.V_mk hc (Kd.F_mono (Kd.C_F (Kd.heap_slice 5 (Kd.heap_int .u8)) h) (fun b hb hg => by have := hG b hg; omega))
theorem flat_small {ls : List (List Int)} (h1 : 4 * ls.length ≤ 16384) (h2 : ∀ d ∈ ls, d.length ≤ 16384) : (ls.flatMap sealP).length < 900000000 := by
  have : ∀ (m : List (List Int)), (∀ d ∈ m, d.length ≤ 16384) → (m.flatMap sealP).length ≤ m.length * 16400 := by
    intro m
    induction m with
    | nil => intro _; simp
    | cons d m ih =>
      intro h
      have h3 := ih (fun x hx => h x (List.mem_cons_of_mem _ hx))
      have h4 := h d (List.mem_cons_self ..)
      have h5 := seal_len d
      have h6 := enc_len 9 d.length
      rw [List.flatMap_cons, List.length_append, List.length_cons]
      omega
  have := this ls h2
  omega
end Go.Proofs.Ytehjbhnlbjbhfaa.Tp
-- PlainR
namespace Go.Proofs.Ytehjbhnlbjbhfaa.Wire
open Go Go.RowKit Go.Proofs.YtehjbhnlbjbhfaaW.PrintWords Go.Proofs.YtehjbhnlbjbhfaaW.PrintLast Go.Proofs.YtehjbhnlbjbhfaaW.PrintMore
open Go.Proofs.Ytehjbhnlbjbhfaa.WBase
set_option linter.unusedVariables false
end Go.Proofs.Ytehjbhnlbjbhfaa.Wire
-- RefBytes
namespace Go.Proofs.Ytehjbhnlbjbhfaa.Wire
open Go Go.RowKit Go.Proofs.YtehjbhnlbjbhfaaW.PrintWords Go.Proofs.YtehjbhnlbjbhfaaW.PrintLast Go.Proofs.YtehjbhnlbjbhfaaW.PrintMore
open Go
attribute [local go_sem] max2_int min2_int max_two min_two
set_option linter.unusedVariables false
set_option linter.unusedSimpArgs false
end Go.Proofs.Ytehjbhnlbjbhfaa.Wire
-- OpenR
namespace Go.Proofs.Ytehjbhnlbjbhfaa.WkR
open Go Go.RowKit Go.Proofs.YtehjbhnlbjbhfaaW.PrintWords Go.Proofs.YtehjbhnlbjbhfaaW.PrintLast Go.Proofs.YtehjbhnlbjbhfaaW.PrintMore Go.Proofs.Ytehjbhnlbjbhfaa.Wire
open Go
open Go
open Go.Proofs.Ytehjbhnlbjbhfaa.Wk (KdB allP allGo AS AS.below AP AP.step AP.stop info32)
set_option linter.unusedVariables false
set_option linter.unusedSimpArgs false
theorem ba_loop (s : ByteArray) : ∀ (d i : Nat) (r : List UInt8), s.size - i = d → ByteArray.toList.loop s i r = r.reverse ++ s.data.toList.drop i := by
  intro d
  induction d with
  | zero =>
    intro i r h
    unfold ByteArray.toList.loop
    rw [if_neg (by omega), List.drop_eq_nil_of_le (by rw [Array.length_toList]; show s.size ≤ i; omega), List.append_nil]
  | succ d ih =>
    intro i r h
    unfold ByteArray.toList.loop
    have hi : i < s.size := by omega
    rw [if_pos hi, ih (i + 1) _ (by omega), List.reverse_cons, List.append_assoc]
    congr 1
    have hl : i < s.data.toList.length := by rw [Array.length_toList]; exact hi
    rw [List.drop_eq_getElem_cons hl]
    have : s.get! i = s.data.toList[i] := by
      have hi2 : i < s.data.size := hi
      simp [ByteArray.get!]; exact getElem!_pos s.data i hi2
    rw [this]; rfl
theorem ba_toList (s : ByteArray) : s.toList = s.data.toList := by
  unfold ByteArray.toList
  rw [ba_loop s s.size 0 [] (by omega)]; simp
end Go.Proofs.Ytehjbhnlbjbhfaa.WkR
-- RdA
namespace Go.Proofs.Ytehjbhnlbjbhfaa.Rd
open Go Go.RowKit Go.Proofs.YtehjbhnlbjbhfaaW.PrintWords Go.Proofs.YtehjbhnlbjbhfaaW.PrintLast Go.Proofs.YtehjbhnlbjbhfaaW.PrintMore Go.Proofs.Ytehjbhnlbjbhfaa.Dk
attribute [local go_sem] max2_int min2_int max_two min_two
set_option linter.unusedVariables false
set_option linter.unusedSimpArgs false
structure XF where
  told : ByteArray
  lasts : ByteArray
  cl : Bool
structure XV where
  fs : List XF
  room : Int
  off : Bool
  fuse : Int
  kv : Value
def XF.cells (f : XF) : List Value := [.string f.told, .string f.lasts, .bool f.cl]
def XV.cells (d : XV) : List Value := d.fs.flatMap XF.cells ++ [.int .i64 d.room, .bool d.off, .int .i64 d.fuse, d.kv]
section
variable {W : World} {x : Nat} {d : XV}
end
section
variable {W : World} {x : Nat} {s : DS} {kv : Value}
theorem set_set (s : DS) (i : Nat) (f f' : Fl) : setF (setF s i f) i f' = setF s i f' := by unfold setF; simp only [List.set_set]
end
end Go.Proofs.Ytehjbhnlbjbhfaa.Rd
-- RdB
namespace Go.Proofs.Ytehjbhnlbjbhfaa.Rd
open Go Go.RowKit Go.Proofs.YtehjbhnlbjbhfaaW.PrintWords Go.Proofs.YtehjbhnlbjbhfaaW.PrintLast Go.Proofs.YtehjbhnlbjbhfaaW.PrintMore Go.Proofs.Ytehjbhnlbjbhfaa.Dk
attribute [local go_sem] max2_int min2_int max_two min_two
set_option linter.unusedVariables false
set_option linter.unusedSimpArgs false
def By (l : List Int) : Prop := ∀ x ∈ l, 0 ≤ x ∧ x < 256
end Go.Proofs.Ytehjbhnlbjbhfaa.Rd
-- RdC
namespace Go.Proofs.Ytehjbhnlbjbhfaa.Rd
open Go Go.RowKit Go.Proofs.YtehjbhnlbjbhfaaW.PrintWords Go.Proofs.YtehjbhnlbjbhfaaW.PrintLast Go.Proofs.YtehjbhnlbjbhfaaW.PrintMore Go.Proofs.Ytehjbhnlbjbhfaa.Dk
attribute [local go_sem] max2_int min2_int max_two min_two
set_option linter.unusedVariables false
set_option linter.unusedSimpArgs false
theorem byte_eq {s t : ByteArray} (h : s.data.toList = t.data.toList) : s = t := by
  cases s; cases t; congr 1; exact Array.toList_inj.1 h
end Go.Proofs.Ytehjbhnlbjbhfaa.Rd
-- RdD
namespace Go.Proofs.Ytehjbhnlbjbhfaa.Rd
open Go Go.RowKit Go.Proofs.YtehjbhnlbjbhfaaW.PrintWords Go.Proofs.YtehjbhnlbjbhfaaW.PrintLast Go.Proofs.YtehjbhnlbjbhfaaW.PrintMore Go.Proofs.Ytehjbhnlbjbhfaa.Dk
open Go.Proofs.Ytehjbhnlbjbhfaa.PDiskBegins
attribute [local go_sem] max2_int min2_int max_two min_two
set_option linter.unusedVariables false
set_option linter.unusedSimpArgs false
end Go.Proofs.Ytehjbhnlbjbhfaa.Rd
-- RdE
namespace Go.Proofs.Ytehjbhnlbjbhfaa.Rd
open Go Go.RowKit Go.Proofs.YtehjbhnlbjbhfaaW.PrintWords Go.Proofs.YtehjbhnlbjbhfaaW.PrintLast Go.Proofs.YtehjbhnlbjbhfaaW.PrintMore Go.Proofs.Ytehjbhnlbjbhfaa.Dk
open Go.Proofs.Ytehjbhnlbjbhfaa.PDiskBegins
attribute [local go_sem] max2_int min2_int max_two min_two
set_option linter.unusedVariables false
set_option linter.unusedSimpArgs false
end Go.Proofs.Ytehjbhnlbjbhfaa.Rd
-- RdF
namespace Go.Proofs.Ytehjbhnlbjbhfaa.Rd
open Go Go.RowKit Go.Proofs.YtehjbhnlbjbhfaaW.PrintWords Go.Proofs.YtehjbhnlbjbhfaaW.PrintLast Go.Proofs.YtehjbhnlbjbhfaaW.PrintMore Go.Proofs.Ytehjbhnlbjbhfaa.Dk
open Go.Proofs.Ytehjbhnlbjbhfaa.PDiskBegins
attribute [local go_sem] max2_int min2_int max_two min_two
set_option linter.unusedVariables false
set_option linter.unusedSimpArgs false
end Go.Proofs.Ytehjbhnlbjbhfaa.Rd
-- RdG
namespace Go.Proofs.Ytehjbhnlbjbhfaa.Rd
open Go Go.RowKit Go.Proofs.YtehjbhnlbjbhfaaW.PrintWords Go.Proofs.YtehjbhnlbjbhfaaW.PrintLast Go.Proofs.YtehjbhnlbjbhfaaW.PrintMore Go.Proofs.Ytehjbhnlbjbhfaa.Dk
open Go.Proofs.Ytehjbhnlbjbhfaa.PDiskBegins
attribute [local go_sem] max2_int min2_int max_two min_two
set_option linter.unusedVariables false
set_option linter.unusedSimpArgs false
end Go.Proofs.Ytehjbhnlbjbhfaa.Rd
-- RdH
namespace Go.Proofs.Ytehjbhnlbjbhfaa.Rd
open Go Go.RowKit Go.Proofs.YtehjbhnlbjbhfaaW.PrintWords Go.Proofs.YtehjbhnlbjbhfaaW.PrintLast Go.Proofs.YtehjbhnlbjbhfaaW.PrintMore Go.Proofs.Ytehjbhnlbjbhfaa.Dk
open Go.Proofs.Ytehjbhnlbjbhfaa.PDiskBegins
attribute [local go_sem] max2_int min2_int max_two min_two
set_option linter.unusedVariables false
set_option linter.unusedSimpArgs false
end Go.Proofs.Ytehjbhnlbjbhfaa.Rd
-- RdI
namespace Go.Proofs.Ytehjbhnlbjbhfaa.Rd
open Go Go.RowKit Go.Proofs.YtehjbhnlbjbhfaaW.PrintWords Go.Proofs.YtehjbhnlbjbhfaaW.PrintLast Go.Proofs.YtehjbhnlbjbhfaaW.PrintMore Go.Proofs.Ytehjbhnlbjbhfaa.Dk
open Go.Proofs.Ytehjbhnlbjbhfaa.PDiskBegins
set_option linter.unusedVariables false
def DB (s : DS) : Prop := ∀ f ∈ s.fs, By f.seen ∧ By f.lasts
theorem DB.setF {s : DS} (h : DB s) (i : Nat) {f : Fl} (hf : By f.seen ∧ By f.lasts) : DB (setF s i f) := by
  intro x hx
  rcases List.mem_or_eq_of_mem_set hx with hx | rfl
  · exact h x hx
  · exact hf
end Go.Proofs.Ytehjbhnlbjbhfaa.Rd
-- RtA
namespace Go.Proofs.Ytehjbhnlbjbhfaa.Rt
open Go Go.RowKit Go.Proofs.YtehjbhnlbjbhfaaW.PrintWords Go.Proofs.YtehjbhnlbjbhfaaW.PrintLast Go.Proofs.YtehjbhnlbjbhfaaW.PrintMore Go.Proofs.Ytehjbhnlbjbhfaa.Wire Go.Proofs.Ytehjbhnlbjbhfaa.Wk Go.Proofs.Ytehjbhnlbjbhfaa.Dk Go.Proofs.Ytehjbhnlbjbhfaa.Tp Go.Proofs.Ytehjbhnlbjbhfaa.Rd
open Go
open Go
open Go.Proofs.Ytehjbhnlbjbhfaa.WkR
set_option linter.unusedVariables false
set_option linter.unusedSimpArgs false
end Go.Proofs.Ytehjbhnlbjbhfaa.Rt
-- RtB
namespace Go.Proofs.Ytehjbhnlbjbhfaa.Rt
open Go Go.RowKit Go.Proofs.YtehjbhnlbjbhfaaW.PrintWords Go.Proofs.YtehjbhnlbjbhfaaW.PrintLast Go.Proofs.YtehjbhnlbjbhfaaW.PrintMore Go.Proofs.Ytehjbhnlbjbhfaa.Wire Go.Proofs.Ytehjbhnlbjbhfaa.Wk Go.Proofs.Ytehjbhnlbjbhfaa.Dk Go.Proofs.Ytehjbhnlbjbhfaa.Tp Go.Proofs.Ytehjbhnlbjbhfaa.Rd
open Go
open Go.Proofs.Ytehjbhnlbjbhfaa.WkR
set_option linter.unusedVariables false
set_option linter.unusedSimpArgs false
end Go.Proofs.Ytehjbhnlbjbhfaa.Rt
-- RtC
namespace Go.Proofs.Ytehjbhnlbjbhfaa.Rt
open Go Go.RowKit Go.Proofs.YtehjbhnlbjbhfaaW.PrintWords Go.Proofs.YtehjbhnlbjbhfaaW.PrintLast Go.Proofs.YtehjbhnlbjbhfaaW.PrintMore Go.Proofs.Ytehjbhnlbjbhfaa.Wire Go.Proofs.Ytehjbhnlbjbhfaa.Wk Go.Proofs.Ytehjbhnlbjbhfaa.Dk Go.Proofs.Ytehjbhnlbjbhfaa.Tp Go.Proofs.Ytehjbhnlbjbhfaa.Rd
set_option linter.unusedVariables false
set_option linter.unusedSimpArgs false
end Go.Proofs.Ytehjbhnlbjbhfaa.Rt
-- RtD
namespace Go.Proofs.Ytehjbhnlbjbhfaa.Rt
open Go Go.RowKit Go.Proofs.YtehjbhnlbjbhfaaW.PrintWords Go.Proofs.YtehjbhnlbjbhfaaW.PrintLast Go.Proofs.YtehjbhnlbjbhfaaW.PrintMore Go.Proofs.Ytehjbhnlbjbhfaa.Wire Go.Proofs.Ytehjbhnlbjbhfaa.Wk Go.Proofs.Ytehjbhnlbjbhfaa.Dk Go.Proofs.Ytehjbhnlbjbhfaa.Tp Go.Proofs.Ytehjbhnlbjbhfaa.Rd
set_option linter.unusedVariables false
set_option linter.unusedSimpArgs false
theorem clear_room (s : DS) (i : Int) : (clearP s i).1.room = s.room := by
  unfold clearP
  split
  · rfl
  · exact act_room _ _ _ (fun s n => doneC_room _ s n)
theorem sync_room (s : DS) (i : Int) : (syncP s i).1.room = s.room := by
  unfold syncP
  split
  · rfl
  · exact act_room _ _ _ (fun s n => doneY_room _ s n)
end Go.Proofs.Ytehjbhnlbjbhfaa.Rt
-- RtE
namespace Go.Proofs.Ytehjbhnlbjbhfaa.Rt
open Go Go.RowKit Go.Proofs.YtehjbhnlbjbhfaaW.PrintWords Go.Proofs.YtehjbhnlbjbhfaaW.PrintLast Go.Proofs.YtehjbhnlbjbhfaaW.PrintMore Go.Proofs.Ytehjbhnlbjbhfaa.Wire Go.Proofs.Ytehjbhnlbjbhfaa.Wk Go.Proofs.Ytehjbhnlbjbhfaa.Dk Go.Proofs.Ytehjbhnlbjbhfaa.Tp Go.Proofs.Ytehjbhnlbjbhfaa.Rd
set_option linter.unusedVariables false
set_option linter.unusedSimpArgs false
end Go.Proofs.Ytehjbhnlbjbhfaa.Rt
-- RtF
namespace Go.Proofs.Ytehjbhnlbjbhfaa.Rt
open Go Go.RowKit Go.Proofs.YtehjbhnlbjbhfaaW.PrintWords Go.Proofs.YtehjbhnlbjbhfaaW.PrintLast Go.Proofs.YtehjbhnlbjbhfaaW.PrintMore Go.Proofs.Ytehjbhnlbjbhfaa.Wire Go.Proofs.Ytehjbhnlbjbhfaa.Wk Go.Proofs.Ytehjbhnlbjbhfaa.Dk Go.Proofs.Ytehjbhnlbjbhfaa.Tp Go.Proofs.Ytehjbhnlbjbhfaa.Rd
set_option linter.unusedVariables false
set_option linter.unusedSimpArgs false
theorem strs_same (A0 : Option Addr) (c0 : Nat) (A1 : Option Addr) (c1 : Nat) (l : List ByteArray) (n0 n1 : Nat) (h0 : n0 = l.length) (h1 : n1 = l.length) (w : World) (hr0 : Kd.C Kd.string w A0 l.length l) (hc0 : l.length ≤ c0) (hr1 : Kd.C Kd.string w A1 l.length l) (hc1 : l.length ≤ c1) :
    Calls Try.prog 39 #[.slice A0 n0 c0, .slice A1 n1 c1] w fun e w' => e = .returned (.bool true) ∧ Drawn0 w w' := by
  subst h0 h1
  have := strs_calls A0 c0 l A1 c1 l w hr0 hc0 hr1 hc1
  rw [eqSt_self] at this
  exact this
end Go.Proofs.Ytehjbhnlbjbhfaa.Rt
-- TkA
namespace Go.Proofs.Ytehjbhnlbjbhfaa.Tp
open Go Go.RowKit Go.Proofs.YtehjbhnlbjbhfaaW.PrintWords Go.Proofs.YtehjbhnlbjbhfaaW.PrintLast Go.Proofs.YtehjbhnlbjbhfaaW.PrintMore Go.Proofs.Ytehjbhnlbjbhfaa.Wire Go.Proofs.Ytehjbhnlbjbhfaa.Wk Go.Proofs.Ytehjbhnlbjbhfaa.Dk
open Go.Proofs.Ytehjbhnlbjbhfaa.PTapePlays Go.Proofs.Ytehjbhnlbjbhfaa.Rt
set_option linter.unusedVariables false
set_option linter.unusedSimpArgs false
def cloneS.f (l0 : List ByteArray) : Option (List ByteArray) := if l0.length < 8796093022208 then some l0 else none
set_option maxHeartbeats 8000000 in
set_option maxRecDepth 100000 in
theorem cloneS.calls (A0 : Option Addr) (c0 : Nat) (l0 : List ByteArray) (r : List ByteArray) (w : World) (hr0 : Kd.C Kd.string w A0 l0.length l0) (hc0 : l0.length ≤ c0) (h : cloneS.f l0 = some r) :
    Calls Try.prog 44 #[.slice A0 l0.length c0] w fun e w' => ∃ v0_ : Value, e = .returned (v0_) ∧ Kd.R Kd.string 9 w' w.heap.size (fun _ => True) v0_ r ∧ Below w.heap.size w w' := by
  unfold cloneS.f at h
  by_cases c1 : l0.length < 8796093022208
  · rw [if_pos c1] at h
    obtain rfl := Option.some.inj h
    clear h
    have LM := Aside0.mk c1
    clear c1
    have HR0 := Aside0.mk hr0
    have HC0 := Aside0.mk hc0
    clear hr0 hc0
    have HB := Aside0.mk (Below.refl w.heap.size w)
    cases A0 with
    | none =>
      have hn : l0 = [] := by
        cases l0 with
        | nil => rfl
        | cons a_ b_ => obtain ⟨ad, e, _⟩ := Kd.at_string HR0.out 0 (by decide) (by simp); cases e
      subst hn
      have heq : ∀ W : World, (binOp .eql 81 (.slice none ([] : List ByteArray).length c0) (.slice none 0 0)).run Try.prog W = .ok (.bool true) W := fun W => Lib.run_eql_slice_nil W 81 9 none _ _ _ _ Try.underlying81
      have heq2 : ∀ W : World, (binOp .eql 81 (.slice none 0 c0) (.slice none 0 0)).run Try.prog W = .ok (.bool true) W := fun W => Lib.run_eql_slice_nil W 81 9 none _ _ _ _ Try.underlying81
      go_enter Try.func44, Try.ntmps44
      go_wp2
      go_ret
      exact ⟨_, rfl, Kd.R_nil _ _ _ _ _, HB.out⟩
    | some ad =>
      have heq : ∀ W : World, (binOp .eql 81 (.slice (some ad) l0.length c0) (.slice none 0 0)).run Try.prog W = .ok (.bool false) W := fun W => Lib.run_eql_slice_nil W 81 9 (some ad) _ _ _ _ Try.underlying81
      obtain ⟨y1, Ny1⟩ : ∃ y_ : List ByteArray, Aside0 (y_ = ([] : List ByteArray)) := ⟨_, ⟨rfl⟩⟩
      have LM2 := Aside0.mk (show y1.length + l0.length < 8796093022208 by have := LM.out; rw [Ny1.out]; simpa using this)
      have Ny2 := Aside0.mk (show l0 = y1 ++ l0 by rw [Ny1.out]; rfl)
      go_enter Try.func44, Try.ntmps44
      go_wp2_with (first | ((with_reducible refine gate_dst (N := 5) rfl ?_); refine Kd.R_lit Kd.string _ 9 ?hg (N := 5) ?hd (xs := ([] : List ByteArray)) (inner := []) (ok := fun _ => True) (okp := fun _ => True) ?hr ?hp (fun _ hk => hk) trivial (Below.refl _ _) (Nat.le_refl _) (by simp) ?_; (case hd => rfl); (case hg => rfl); (case hr => first | (go_simp; done) | (go_simp; rfl)); (case hp => exact (Reps.none _ _)); intro va w4 ho5 hb hg_ hnew_; clear hg_ hnew_; (first | rw [← Ny1.out] at ho5 | (simp only [Int.reduceToNat] at ho5; rw [← Ny1.out] at ho5)); have n0_ := Aside0.mk (Kd.R_lower ho5 (below_size (by repeat (first | (with_reducible first | exact HB.out | apply below_alloc | apply pw_below_drewN | apply below_drew1) | exact HB.out)))); have n1_ := Aside0.mk (below_step (by repeat (first | (with_reducible first | exact HB.out | apply below_alloc | apply pw_below_drewN | apply below_drew1) | exact HB.out)) hb); clear HB; have HOa := n0_; have HB := n1_; clear n0_ n1_; clear hb ho5) | ((with_reducible refine gate_builtin (b := .append) (xs := #[.tmp 5, .tmp 6]) rfl ?_); at_builtin; refine Kd.R_append_rows Kd.string (w0 := w) w.heap.size rfl (.tmp 5) (.tmp 6) 81 9 (.string ⟨#[]⟩) 16 rfl Try.underlying81 info9 rfl (by decide) (by omega) va y1 l0 _ _ _ (fun _ => True) (fun _ => False) rfl rfl ?aO ?aR (fun _ _ h => h) (fun _ h => h.elim) ?aF ?aB ?aS ?aL ?_; (case aR => repeat (first | exact (Kd.C_below HR0.out HB.out) | (with_reducible refine Kd.C_alloc ?_ _) | (with_reducible refine Kd.C_drewN ?_ _) | (with_reducible refine Kd.C_drew ?_))); (case aB => exact (by repeat (first | (with_reducible first | exact HB.out | apply below_alloc | apply pw_below_drewN | apply below_drew1) | exact HB.out))); (case aF => exact (fun _ _ => trivial)); (case aO => exact (by (with_reducible repeat (first | apply Kd.R_alloc | apply Kd.R_drewN | apply Kd.R_drew)); exact HOa.out)); (case aS => exact (below_size (by repeat (first | (with_reducible first | exact HB.out | apply below_alloc | apply pw_below_drewN | apply below_drew1) | exact HB.out)))); (case aL => have := LM2.out; omega); intro vb w6 ho hb hg hat; rw [← Ny2.out] at ho; have n0_ := Aside0.mk (hb); have n1_ := Aside0.mk (ho); clear HB; clear HOa; have HB := n0_; have HOa := n1_; clear n0_ n1_; clear ho hb hg hat))
      go_ret
      exact ⟨_, rfl, by (with_reducible repeat (first | apply Kd.R_alloc | apply Kd.R_drewN | apply Kd.R_drew)); exact HOa.out, by repeat (first | (with_reducible first | exact HB.out | apply below_alloc | apply pw_below_drewN | apply below_drew1) | exact HB.out)⟩
  · rw [if_neg c1] at h; cases h
theorem CloneS_calls (A0 : Option Addr) (c0 : Nat) (l0 : List ByteArray) (w : World) (hr0 : Kd.C Kd.string w A0 l0.length l0) (hc0 : l0.length ≤ c0) (hl : l0.length < 8796093022208) :
    Calls Try.prog 44 #[.slice A0 l0.length c0] w fun e w' => ∃ v0_ : Value, e = .returned (v0_) ∧ Kd.R Kd.string 9 w' w.heap.size (fun _ => True) v0_ l0 ∧ Below w.heap.size w w' :=
  cloneS.calls A0 c0 l0 l0 w hr0 hc0 (by unfold cloneS.f; rw [if_pos hl])
abbrev KdS : Kd (List ByteArray) := Kd.slice 9 Kd.string
theorem KdS_at {W : World} {base : Nat} {ok : Nat → Prop} {A : Option Addr} {n c : Nat} {RS : List (List ByteArray)} (h : KdS.R 81 W base ok (.slice A n c) RS) (i : Nat) (x : List ByteArray) (hx : RS[i]? = some x) :
    ∃ g A' c', A = some ⟨g, 0, none⟩ ∧ base ≤ g ∧ ok g ∧ n = RS.length ∧ W.cell? ⟨g, i, none⟩ = some (.slice A' x.length c') ∧ W.frozen? ⟨g, i, none⟩ = false ∧ (∃ cells, W.heap[g]? = some (.cells cells 81 (0, 0))) ∧
      Kd.R Kd.string 9 W base (fun k => ok k ∧ k ≠ g) (.slice A' x.length c') x ∧
      ∀ v y, Kd.R Kd.string 9 W base (fun k => ok k ∧ k ≠ g) v y → KdS.R 81 (W.setCell ⟨g, i, none⟩ v) base ok (.slice A n c) (RS.set i y) := by
  have hi : i < RS.length := (List.getElem?_eq_some_iff.1 hx).1
  obtain ⟨h0, inner, ⟨hil, ho⟩, hr⟩ := h
  rcases ho with ⟨_, e⟩ | ⟨g, cap, cur, hv, hbg, hh, hnc, hmx, hcs, htk⟩
  · omega
  · injection hv with h1 h2 h3
    subst h1 h2 h3
    have hne : ∀ k, some k ≠ (Value.slice (some ⟨g, 0, none⟩) RS.length c).ownBlock ↔ k ≠ g := fun k => by simp [Value.ownBlock]
    have hokg : ok g := h0 g rfl
    have hi2 : i < cur.size := by
      have : KdS.sz = 1 := rfl
      rw [hcs, this]; omega
    have hin : inner.length = RS.length := by rw [hil]; exact Nat.mul_one _
    have hget : ∀ (j : Nat) (p : List ByteArray), RS[j]? = some p → ∃ v, inner[j]? = some v ∧ Kd.R Kd.string 9 W base (fun k => ok k ∧ k ≠ g) v p := by
      intro j p hj
      obtain ⟨v, hv, hR⟩ := hr.2 j p hj
      refine ⟨v, ?_, Kd.R_mono hR (fun k hk => ⟨hk.1, (hne k).1 hk.2⟩)⟩
      have h3 : (inner.drop (j * 1)).take 1 = [v] := hv
      have := congrArg (fun l => l[0]?) h3
      simpa using this
    obtain ⟨v, hv, hR⟩ := hget i x hx
    obtain ⟨A', c', rfl⟩ := Kd.R_slice hR
    have hcur : cur[i]? = some (.slice A' x.length c') := by
      have h4 : (cur.toList.take (RS.length * 1))[i]? = some (.slice A' x.length c') := by
        have : cur.toList.take (RS.length * 1) = inner := htk
        rw [this]; exact hv
      rw [List.getElem?_take] at h4
      split at h4
      · simpa using h4
      · exact absurd h4 (by simp)
    refine ⟨g, A', c', rfl, hbg, hokg, rfl, (blk_cell hh i).trans hcur, blk_frozen hh i, ⟨cur, hh⟩, hR, fun u y hu => ?_⟩
    have hsl : (RS.set i y).length = RS.length := List.length_set ..
    refine ⟨h0, inner.set i u, ⟨by rw [List.length_set, hil, hsl], .inr ⟨g, c, cur.setIfInBounds i u, by rw [hsl], hbg, blk_set hh i u, by rw [hsl]; exact hnc, hmx, by simpa using hcs, ?_⟩⟩, by rw [List.length_set, hil, hsl], fun j p hj => ?_⟩
    · rw [hsl, ← htk, Array.toList_setIfInBounds, List.take_set]
    · have hj2 : j < RS.length := by rw [← hsl]; exact (List.getElem?_eq_some_iff.1 hj).1
      have hone : ∀ z, (inner.set i u)[j]? = some z → ((inner.set i u).drop (j * KdS.sz)).take KdS.sz = [z] := by
        intro z hz
        have hlt := (List.getElem?_eq_some_iff.1 hz).1
        show ((inner.set i u).drop (j * 1)).take 1 = [z]
        rw [Nat.mul_one, List.drop_eq_getElem_cons hlt]
        simp only [List.take_succ_cons, List.take_zero]
        rw [(List.getElem?_eq_some_iff.1 hz).2]
      rw [List.getElem?_set] at hj
      split at hj
      · rename_i e
        subst e
        injection hj with hj
        subst hj
        refine ⟨u, hone u (by rw [List.getElem?_set, if_pos rfl, if_pos (by omega)]), ?_⟩
        exact Kd.R_mono (Kd.R_far hu (p := ⟨g, i, none⟩) (fun k hk => hk.2) u) (fun k hk => ⟨hk.1, (hne k).2 hk.2⟩)
      · rename_i e
        obtain ⟨z, hz, hR2⟩ := hget j p hj
        refine ⟨z, hone z (by rw [List.getElem?_set, if_neg e]; exact hz), ?_⟩
        exact Kd.R_mono (Kd.R_far hR2 (p := ⟨g, i, none⟩) (fun k hk => hk.2) u) (fun k hk => ⟨hk.1, (hne k).2 hk.2⟩)
theorem between_calls (A0 : Option Addr) (c0 : Nat) (A1 : Option Addr) (c1 n0 n1 : Nat) (xs ys : List ByteArray) (k j : Nat) (h0 : n0 = xs.length) (h1 : n1 = ys.length) (hx : xs = ys.take j) (hj : j ≤ ys.length) (hk : k ≤ j) (w : World) (hr0 : Kd.C Kd.string w A0 xs.length xs) (hc0 : xs.length ≤ c0) (hr1 : Kd.C Kd.string w A1 ys.length ys) (hc1 : ys.length ≤ c1) :
    Calls Try.prog 46 #[.slice A0 n0 c0, .slice A1 n1 c1, .int .i64 (k : Int)] w fun e w' => e = .returned (.bool true) ∧ Below w.heap.size w w' := by
  have hxl : xs.length = j := by rw [hx, List.length_take]; omega
  rw [h0, h1, hxl]
  have d1 : decide ((j : Int) ≥ (k : Int)) = true := decide_eq_true (by omega)
  have d2 : decide ((k : Int) ≤ (j : Int)) = true := decide_eq_true (by omega)
  have d3 : decide ((j : Int) ≤ (ys.length : Int)) = true := decide_eq_true (by omega)
  have HX := Aside0.mk (show Kd.C Kd.string w A1 xs.length xs by have h9 := Kd.C_take hr1 hj; rw [← hx] at h9; exact h9)
  have HR0 := Aside0.mk hr0
  have HL := Aside0.mk hxl
  have HC := Aside0.mk (And.intro hc0 (show xs.length ≤ c1 by omega))
  have i0 : (0 : Int) ≤ (j : Int) := by omega
  have i1 : (j : Int) ≤ (ys.length : Int) := by omega
  have i2 : (j : Int) ≤ (c1 : Int) := by omega
  clear hr0 hr1 hc0 hc1 hx hxl h0 h1
  go_enter Try.func46, Try.ntmps46
  go_wp2_with (fail)
  refine (strs_same A0 c0 A1 c1 xs j j HL.out.symm HL.out.symm _ HR0.out HC.out.1 HX.out HC.out.2).mono ?_
  rintro e w1 ⟨rfl, ⟨n8, rfl⟩⟩
  go_wp2_with (fail)
  go_ret
  exact ⟨rfl, pw_below_drewN (Below.refl _ _) _⟩
end Go.Proofs.Ytehjbhnlbjbhfaa.Tp
-- TkB
namespace Go.Proofs.Ytehjbhnlbjbhfaa.Tp
open Go Go.RowKit Go.Proofs.YtehjbhnlbjbhfaaW.PrintWords Go.Proofs.YtehjbhnlbjbhfaaW.PrintLast Go.Proofs.YtehjbhnlbjbhfaaW.PrintMore Go.Proofs.Ytehjbhnlbjbhfaa.Wire Go.Proofs.Ytehjbhnlbjbhfaa.Wk Go.Proofs.Ytehjbhnlbjbhfaa.Dk
open Go.Proofs.Ytehjbhnlbjbhfaa.PTapePlays Go.Proofs.Ytehjbhnlbjbhfaa.Rt
set_option linter.unusedVariables false
set_option linter.unusedSimpArgs false
set_option maxHeartbeats 8000000 in
set_option maxRecDepth 100000 in
theorem reopened_calls (G : Nat → Prop) (b : Nat) (s s' : DS) (x : TS) (w : World) (hD : IsD G w b s) (hr0 : s.room ≠ 0) (hok : Okk { s with off := false }) (hb : BsD { s with off := false }) (ho : openT { s with off := false } = (some x, s', 0)) :
    Calls Try.prog 45 #[.pointer (some ⟨b, 0, none⟩)] w fun e w' => ∃ Q q, e = .returned (.tuple #[.agg #[.pointer none, .int .i64 0, .string (strOfNums x.r.base), .slice Q x.r.l.length q, .int .i64 0, .int .i64 0], .int .i64 0]) ∧ Kd.R Kd.string 9 w' w.heap.size (fun _ => True) (.slice Q x.r.l.length q) (x.r.l.map strOfNums) ∧ Ws (fun k => k = b) w w' := by
  have hbd := (openT_some hb hok.1 ho).2.1
  have HBN := Aside0.mk (show x.r.base.length < 1000000000 ∧ x.r.l.length < 1000000000 ∧ ∀ d ∈ x.r.l, d.length < 1000000000 from ⟨by have := hbd.base; omega, by have := hbd.many; omega, fun d hd => by have := hbd.l d hd; omega⟩)
  have HST := Aside0.mk (Dk.start_eq hr0)
  have HSR := Aside0.mk (show (startP s).2 = 0 by unfold startP; rw [if_neg hr0])
  have HOK := Aside0.mk hok
  have HBS := Aside0.mk hb
  generalize ({ s with off := false } : DS) = s0 at *
  have HO := Aside0.mk ho
  obtain ⟨r, hr⟩ : ∃ r, w.heap.size = r := ⟨_, rfl⟩
  have HRR := Aside0.mk hr
  have hbl := below_alloc (Below.refl w.heap.size w) (.cells #[.pointer none, .int .i64 0, .string ⟨#[]⟩, .slice none 0 0, .int .i64 0, .int .i64 0] 92)
  have hnew := blk_new w (.cells #[.pointer none, .int .i64 0, .string ⟨#[]⟩, .slice none 0 0, .int .i64 0, .int .i64 0] 92)
  rw [hr] at hnew
  have HD := Aside0.mk (IsD.below hD hbl)
  have HBL := Aside0.mk hbl
  have HNW := Aside0.mk hnew
  have HBB := Aside0.mk (show b < r by have := hD.ltg; omega)
  clear hbd hr0 hok hb ho hbl hnew hD
  go_enter Try.func45, Try.ntmps45
  go_wp2_with (fail)
  refine (Start_calls G b s _ HD.out).mono ?_
  rw [HST.out, HSR.out]
  rintro e w2 ⟨rfl, hD2, hW2⟩
  have HD2 := Aside0.mk hD2
  have HW2 := Aside0.mk hW2
  clear hD2 hW2
  go_wp2_with (fail)
  refine (Open_calls G b s0 _ HD2.out HOK.out HBS.out).mono ?_
  rw [HO.out]
  rintro e w3 ⟨p, rfl, hD3, hW3, rfl, hT3⟩
  have HBK0 := Aside0.mk (show w2.heap[r]? = some (.cells #[.pointer none, .int .i64 0, .string ⟨#[]⟩, .slice none 0 0, .int .i64 0, .int .i64 0] 92 (0, 0)) from (HW2.out.block r (blk_lt HNW.out) (by have := HBB.out; omega)).trans HNW.out)
  have HBK := Aside0.mk ((hW3.block r (blk_lt HBK0.out) (by have := HBB.out; omega)).trans HBK0.out)
  have HWW := Aside0.mk (show Ws (fun k => k = b) w w3 from ((Ws.of_below HBL.out).trans (Ws.of_wr (P := fun k => k = b) HW2.out rfl)).trans hW3)
  obtain ⟨G', hG'⟩ : ∃ G' : Nat → Prop, (fun k => G k ∨ k = w2.heap.size) = G' := ⟨_, rfl⟩
  rw [hG'] at hT3
  obtain ⟨t, ht⟩ : ∃ t, w2.heap.size = t := ⟨_, rfl⟩
  rw [ht] at hT3 ⊢
  have HT := Aside0.mk hT3
  clear hT3 hD3 hW3 hG'
  go_wp2_with (fail)
  refine start_ (n := 9) (S := fun w' => w'.heap[r]? = some (.cells #[.pointer none, .int .i64 0, .string ⟨#[]⟩, .slice none 0 0, .int .i64 0, .int .i64 0] 92 (0, 0)) ∧ Below w3.heap.size w3 w') (ds := [7]) #[false, false, false, false, false, false, false, false, false] (by kernel_rfl) rfl rfl ⟨blk_drew HBK.out, below_drew1 (Below.refl w3.heap.size w3)⟩ (fun hHeld => ?_)
  refine pure_ (i := 0) (N := some 13) (v := ?_) (a' := ?_) #[true, false, false, false, false, false, false, false, false] rfl rfl (by kernel_rfl) (fun _ _ _ h => h) (Or.inl ⟨by rfl, ?_⟩) ?_ ?_
  rotate_left
  · intro w'
    go_simp
    with_reducible rfl
  rotate_left
  · simp only [Act.put, List.setIfInBounds_toArray, List.set_cons_zero, List.set_cons_succ, i64_w, i32_w]
    rfl
  refine pure_ (i := 3) (N := some 16) (v := ?_) (a' := ?_) #[true, false, false, true, false, false, false, false, false] rfl rfl (by kernel_rfl) (fun _ _ _ h => h) (Or.inl ⟨by rfl, ?_⟩) ?_ ?_
  rotate_left
  · intro w'
    go_simp
    with_reducible rfl
  rotate_left
  · simp only [Act.put, List.setIfInBounds_toArray, List.set_cons_zero, List.set_cons_succ, i64_w, i32_w]
    rfl
  refine pure_ (i := 6) (N := some 19) (v := ?_) (a' := ?_) #[true, false, false, true, false, false, true, false, false] rfl rfl (by kernel_rfl) (fun _ _ _ h => h) (Or.inl ⟨by rfl, ?_⟩) ?_ ?_
  rotate_left
  · intro w'
    go_simp
    with_reducible rfl
  rotate_left
  · simp only [Act.put, List.setIfInBounds_toArray, List.set_cons_zero, List.set_cons_succ, i64_w, i32_w]
    rfl
  refine one_ (i := 1) (N := some 14) #[true, true, false, true, false, false, true, false, false] rfl rfl (by kernel_rfl) (by decide) (fun K hK => ?_)
  refine goes_ Try.func29 (by kernel_rfl) rfl #[.pointer (some ⟨t, 0, none⟩)] (by rfl) rfl rfl (by first | rfl | (simp; done) | (simp only [List.map_toArray, List.map_cons, List.map_nil]; rfl)) ?_
  with_reducible refine (Base_calls G' t b x _ (HT.out.below hHeld.2) HBN.out.1).mono ?_
  rintro e w6 ⟨v, rfl, hR, hb⟩
  refine ⟨_, rfl, ?_⟩
  obtain ⟨P1, p1, e6⟩ := Kd.R_slice hR
  subst e6
  have HP := Aside0.mk (Kd.R_reads' hR).2.2
  clear hR
  refine hK.out _ _ ⟨blk_below hHeld.1 hb, below_step hHeld.2 hb⟩ (fun hHeld => ?_)
  clear hK K
  refine norm_ (a' := ?_) ?_ ?_
  rotate_left
  · show Act.put _ (some 14) _ = _
    simp only [Act.put, List.setIfInBounds_toArray, List.set_cons_zero, List.set_cons_succ, i64_w, i32_w]
    rfl
  refine join_ (σ := Option Addr × Nat × Option Addr × Nat) 3 #[true, true, true, true, true, false, true, false, false] (fun s => [(14, .slice s.2.2.1 x.r.base.length s.2.2.2), (15, .string (strOfNums x.r.base)), (17, .slice s.1 x.r.l.length s.2.1)]) (fun s w' => (∃ W7 : World, w3.heap.size ≤ W7.heap.size ∧ Kd.R Kd.string 9 w' W7.heap.size (fun _ => True) (.slice s.1 x.r.l.length s.2.1) (x.r.l.map strOfNums)) ∧ w'.heap[r]? = some (.cells #[.pointer none, .int .i64 0, .string ⟨#[]⟩, .slice none 0 0, .int .i64 0, .int .i64 0] 92 (0, 0)) ∧ Below w3.heap.size w3 w') ?_ ?_
  rotate_left
  · intro hCont
    refine two_ (i := 2) (j := 4) (Ni := some 15) (Nj := some 17) #[true, true, true, true, false, false, true, false, false] #[true, true, false, true, true, false, true, false, false] rfl rfl rfl rfl (by kernel_rfl) (by decide) (by decide) (fun K hK => ?_) (fun K hK => ?_)
    · skip
      have hk_ := Kd.C_string (P := Try.prog) (A := P1) (c := p1) Try.underlying32 Try.underlying5 Try.underlying9 HP.out
      refine value_ (w1 := ?_) (v := ?_) (by rfl) rfl ?_ ?_
      rotate_left 2
      · go_simp
        constructor
        · rfl
        · rfl
      clear hk_
      refine hK.out _ _ ⟨hHeld.1, hHeld.2⟩ (fun hHeld => ?_)
      clear hK K
      refine norm_ (a' := ?_) ?_ ?_
      rotate_left
      · show Act.put _ (some 15) _ = _
        simp only [Act.put, List.setIfInBounds_toArray, List.set_cons_zero, List.set_cons_succ, i64_w, i32_w]
        rfl
      refine one_ (i := 4) (N := some 17) #[true, true, true, true, true, false, true, false, false] rfl rfl (by kernel_rfl) (by decide) (fun K hK => ?_)
      refine goes_ Try.func40 (by kernel_rfl) rfl #[.pointer (some ⟨t, 0, none⟩)] (by rfl) rfl rfl (by first | rfl | (simp; done) | (simp only [List.map_toArray, List.map_cons, List.map_nil]; rfl)) ?_
      with_reducible refine (records_calls G' t b x _ (HT.out.below hHeld.2) HBN.out.2.1 HBN.out.2.2).mono ?_
      rintro e w7 ⟨v, rfl, hR, hb⟩
      refine ⟨_, rfl, ?_⟩
      obtain ⟨Q1, q1, e7⟩ := Kd.R_slice hR
      subst e7
      rw [List.length_map] at hR ⊢
      have HW7 := Aside0.mk (show w3.heap.size ≤ _ from hHeld.2.size)
      have HR7 := Aside0.mk hR
      have n0_ := Aside0.mk (Kd.C_below HP.out hb)
      clear HP
      have HP := n0_
      clear n0_
      clear hR
      refine hK.out _ _ ⟨blk_below hHeld.1 hb, below_step hHeld.2 hb⟩ (fun hHeld => ?_)
      clear hK K
      refine norm_ (a' := ?_) ?_ ?_
      rotate_left
      · show Act.put _ (some 17) _ = _
        simp only [Act.put, List.setIfInBounds_toArray, List.set_cons_zero, List.set_cons_succ, i64_w, i32_w]
        rfl
      exact norm_ (by simp only [putAll, Act.put, List.setIfInBounds_toArray, List.set_cons_zero, List.set_cons_succ]) (hCont ⟨Q1, q1, P1, p1⟩ _ ⟨⟨_, HW7.out, HR7.out⟩, hHeld.1, hHeld.2⟩)
    · skip
      refine goes_ Try.func40 (by kernel_rfl) rfl #[.pointer (some ⟨t, 0, none⟩)] (by rfl) rfl rfl (by first | rfl | (simp; done) | (simp only [List.map_toArray, List.map_cons, List.map_nil]; rfl)) ?_
      with_reducible refine (records_calls G' t b x _ (HT.out.below hHeld.2) HBN.out.2.1 HBN.out.2.2).mono ?_
      rintro e w7 ⟨v, rfl, hR, hb⟩
      refine ⟨_, rfl, ?_⟩
      obtain ⟨Q1, q1, e7⟩ := Kd.R_slice hR
      subst e7
      rw [List.length_map] at hR ⊢
      have HW7 := Aside0.mk (show w3.heap.size ≤ _ from hHeld.2.size)
      have HR7 := Aside0.mk hR
      have n0_ := Aside0.mk (Kd.C_below HP.out hb)
      clear HP
      have HP := n0_
      clear n0_
      clear hR
      refine hK.out _ _ ⟨blk_below hHeld.1 hb, below_step hHeld.2 hb⟩ (fun hHeld => ?_)
      clear hK K
      refine norm_ (a' := ?_) ?_ ?_
      rotate_left
      · show Act.put _ (some 17) _ = _
        simp only [Act.put, List.setIfInBounds_toArray, List.set_cons_zero, List.set_cons_succ, i64_w, i32_w]
        rfl
      refine one_ (i := 2) (N := some 15) #[true, true, true, true, true, false, true, false, false] rfl rfl (by kernel_rfl) (by decide) (fun K hK => ?_)
      have hk_ := Kd.C_string (P := Try.prog) (A := P1) (c := p1) Try.underlying32 Try.underlying5 Try.underlying9 HP.out
      refine value_ (w1 := ?_) (v := ?_) (by rfl) rfl ?_ ?_
      rotate_left 2
      · go_simp
        constructor
        · rfl
        · rfl
      clear hk_
      refine hK.out _ _ ⟨hHeld.1, hHeld.2⟩ (fun hHeld => ?_)
      clear hK K
      refine norm_ (a' := ?_) ?_ ?_
      rotate_left
      · show Act.put _ (some 15) _ = _
        simp only [Act.put, List.setIfInBounds_toArray, List.set_cons_zero, List.set_cons_succ, i64_w, i32_w]
        rfl
      exact norm_ (by simp only [putAll, Act.put, List.setIfInBounds_toArray, List.set_cons_zero, List.set_cons_succ]) (hCont ⟨Q1, q1, P1, p1⟩ _ ⟨⟨_, HW7.out, HR7.out⟩, hHeld.1, hHeld.2⟩)
  rintro ⟨Q1, q1, P1, p1⟩ w5 ⟨⟨W7, hW7, hR7⟩, hk5, hb5⟩
  have hHeld := And.intro hk5 hb5
  refine norm_ (a' := ?_) ?_ ?_
  rotate_left
  · simp only [putAll, Act.put, List.setIfInBounds_toArray, List.set_cons_zero, List.set_cons_succ]
    rfl
  refine pure_ (i := 5) (N := some 18) (v := ?_) (a' := ?_) #[true, true, true, true, true, true, true, false, false] rfl rfl (by kernel_rfl) (fun _ _ _ h => h) (Or.inl ⟨by rfl, ?_⟩) ?_ ?_
  rotate_left
  · intro w'
    go_simp
    with_reducible rfl
  rotate_left
  · simp only [Act.put, List.setIfInBounds_toArray, List.set_cons_zero, List.set_cons_succ, i64_w, i32_w]
    rfl
  refine last_ (i := 7) (N := none) #[true, true, true, true, true, true, true, true, false] rfl rfl (by kernel_rfl) (by decide) (fun K hK => ?_)
  have hc0S := (blk_cell hHeld.1 0).trans (show _ = some (Value.pointer none) from rfl)
  have hf0S := blk_frozen hHeld.1 0
  have hc1S := (blk_cell hHeld.1 1).trans (show _ = some (Value.int .i64 0) from rfl)
  have hf1S := blk_frozen hHeld.1 1
  have hc2S := (blk_cell hHeld.1 2).trans (show _ = some (Value.string ⟨#[]⟩) from rfl)
  have hf2S := blk_frozen hHeld.1 2
  have hc3S := (blk_cell hHeld.1 3).trans (show _ = some (Value.slice none 0 0) from rfl)
  have hf3S := blk_frozen hHeld.1 3
  have hc4S := (blk_cell hHeld.1 4).trans (show _ = some (Value.int .i64 0) from rfl)
  have hf4S := blk_frozen hHeld.1 4
  have hc5S := (blk_cell hHeld.1 5).trans (show _ = some (Value.int .i64 0) from rfl)
  have hf5S := blk_frozen hHeld.1 5
  refine skip_ (w1 := ?_) (by rfl) rfl ?_ ?_
  rotate_left
  · go_simp
    rfl
  refine hK.out _ _ ?_
  clear hK K
  refine pure_ (i := 8) (N := some 3) (v := ?_) (a' := ?_) #[true, true, true, true, true, true, true, true, true] rfl rfl (by kernel_rfl) (fun _ _ _ h => h) (Or.inl ⟨by rfl, ?_⟩) ?_ ?_
  rotate_left
  · intro w'
    go_simp
    with_reducible rfl
  rotate_left
  · simp only [Act.put, List.setIfInBounds_toArray, List.set_cons_zero, List.set_cons_succ, i64_w, i32_w]
    rfl
  refine done_ (by kernel_rfl) ?_
  go_wp2_with (fail)
  have k1 := blk_put (cs' := #[.pointer none, .int .i64 0, .string ⟨#[]⟩, .slice none 0 0, .int .i64 0, .int .i64 0]) hk5 0 (.pointer none) rfl
  have k2 := blk_put (cs' := #[.pointer none, .int .i64 0, .string ⟨#[]⟩, .slice none 0 0, .int .i64 0, .int .i64 0]) k1 1 (.int .i64 0) rfl
  have k3 := blk_put (cs' := #[.pointer none, .int .i64 0, .string (strOfNums x.r.base), .slice none 0 0, .int .i64 0, .int .i64 0]) k2 2 (.string (strOfNums x.r.base)) rfl
  have k4 := blk_put (cs' := #[.pointer none, .int .i64 0, .string (strOfNums x.r.base), .slice Q1 x.r.l.length q1, .int .i64 0, .int .i64 0]) k3 3 (.slice Q1 x.r.l.length q1) rfl
  have k5 := blk_put (cs' := #[.pointer none, .int .i64 0, .string (strOfNums x.r.base), .slice Q1 x.r.l.length q1, .int .i64 0, .int .i64 0]) k4 4 (.int .i64 0) rfl
  have k6 := blk_put (cs' := #[.pointer none, .int .i64 0, .string (strOfNums x.r.base), .slice Q1 x.r.l.length q1, .int .i64 0, .int .i64 0]) k5 5 (.int .i64 0) rfl
  have ht9 : ∀ q, q ∈ 9 :: Kd.string.E → q ≠ 92 := by
    intro q hq
    have h9 : q = 9 := by simpa [Kd.string, Kd.scalar] using hq
    omega
  have r1 := Kd.R_set hR7 hk5 ht9 0 (.pointer none)
  have r2 := Kd.R_set r1 k1 ht9 1 (.int .i64 0)
  have r3 := Kd.R_set r2 k2 ht9 2 (.string (strOfNums x.r.base))
  have r4 := Kd.R_set r3 k3 ht9 3 (.slice Q1 x.r.l.length q1)
  have r5 := Kd.R_set r4 k4 ht9 4 (.int .i64 0)
  have r6 := Kd.R_set r5 k5 ht9 5 (.int .i64 0)
  have hws : Ws (fun k => k = b) w ((((((w5.setCell ⟨r, 0, none⟩ (.pointer none)).setCell ⟨r, 1, none⟩ (.int .i64 0)).setCell ⟨r, 2, none⟩ (.string (strOfNums x.r.base))).setCell ⟨r, 3, none⟩ (.slice Q1 x.r.l.length q1)).setCell ⟨r, 4, none⟩ (.int .i64 0)).setCell ⟨r, 5, none⟩ (.int .i64 0)) := by
    have h1 := HWW.out.trans (Ws.of_below hb5)
    have hs : ∀ (q : Nat) (u : Value) (X : World), Ws (fun k => k = b) w X → Ws (fun k => k = b) w (X.setCell ⟨r, q, none⟩ u) := fun q u X h =>
      ⟨h.os, h.tape, h.output, by simp; exact h.size, fun i hi hn => by rw [Below.heap_setCell X ⟨r, q, none⟩ u i (by have := HRR.out; show i ≠ r; omega)]; exact h.block i hi hn⟩
    exact hs _ _ _ (hs _ _ _ (hs _ _ _ (hs _ _ _ (hs _ _ _ (hs _ _ _ h1)))))
  have HRES := Aside0.mk (And.intro (Kd.R_lower r6 (show r ≤ W7.heap.size by have := HRR.out; have := HWW.out.size; omega)) hws)
  clear k1 k2 k3 k4 k5 r1 r2 r3 r4 r5 r6 hws hR7 hk5 hb5 hHeld
  refine bodyPost_ret (results_ct rfl _ _ r 92 #[.pointer none, .int .i64 0, .string (strOfNums x.r.base), .slice Q1 x.r.l.length q1, .int .i64 0, .int .i64 0] (0, 0) _ (by rfl) k6 Try.underlying92 rfl (by kernel_rfl)) rfl ?_
  exact ⟨_, _, rfl, HRES.out.1, HRES.out.2⟩
end Go.Proofs.Ytehjbhnlbjbhfaa.Tp
-- TkC
namespace Go.Proofs.Ytehjbhnlbjbhfaa.Tp
open Go Go.RowKit Go.Proofs.YtehjbhnlbjbhfaaW.PrintWords Go.Proofs.YtehjbhnlbjbhfaaW.PrintLast Go.Proofs.YtehjbhnlbjbhfaaW.PrintMore Go.Proofs.Ytehjbhnlbjbhfaa.Wire Go.Proofs.Ytehjbhnlbjbhfaa.Wk Go.Proofs.Ytehjbhnlbjbhfaa.Dk
open Go.Proofs.Ytehjbhnlbjbhfaa.PTapePlays Go.Proofs.Ytehjbhnlbjbhfaa.Rt
set_option linter.unusedVariables false
set_option linter.unusedSimpArgs false
def More (G : Nat → Prop) (W W' : World) : Nat → Prop := fun k => G k ∨ (W.heap.size ≤ k ∧ k < W'.heap.size)
theorem IsD.wsMore {G P : Nat → Prop} {g : Nat} {W W' : World} {s : DS} (h : IsD G W g s) (hw : Ws P W W') (hg : ∀ k, P k → G k) (hne : ¬ P g) : IsD (More G W W') W' g s := by
  have h' := IsD.ws h hw hg hne
  obtain ⟨h1, h2, d, hA, hR⟩ := h
  have hs : ∀ k, k < W.heap.size → More G W W' k → G k := fun k hk hG => hG.elim id (fun e => by omega)
  have hg' : ∀ k, P k → More G W W' k := fun k hk => .inl (hg k hk)
  exact ⟨fun k hk => hk.elim (h'.lt k) (fun e => e.2), .inl h2, d, hA.same (hw.block g (h1 g h2) hne), hR.1, hR.2.1, Rw.ws (hR.2.2.1.grow hs) hw hg', hR.2.2.2.1, hR.2.2.2.2.1, hR.2.2.2.2.2.1, fun i hi => ⟨Rw.ws ((hR.2.2.2.2.2.2 i hi).1.grow hs) hw hg', Rw.ws ((hR.2.2.2.2.2.2 i hi).2.1.grow hs) hw hg', (hR.2.2.2.2.2.2 i hi).2.2⟩⟩
theorem IsT.wsMore {G P : Nat → Prop} {W W' : World} {t g : Nat} {x : TS} (h : IsT G W t g x) (hw : Ws P W W') (hg : ∀ k, P k → G k) (hne : ¬ P t) : IsT (More G W W') W' t g x :=
  (h.grow (G' := More G W W') (.inl h.gt) (fun k hk hG => hG.elim id (fun e => by omega))).ws hw (fun k hk => .inl (hg k hk)) hne
theorem Ws.of_grown {W W' : World} {row : Option Nat} {P : Nat → Prop} (h : W.grownBy W' row) (hP : ∀ k, row = some k → P k) : Ws P W W' :=
  ⟨h.os, h.tape, h.output, h.size, fun i hi hn => h.block i hi (fun e => hn (hP i e.symm))⟩
structure KW (G SB SR : Nat → Prop) (b t M : Nat) (W0 W : World) (z : TS) (s : DS) (vB vR : Value) (BS : List ByteArray) (RS : List (List ByteArray)) : Prop where
  dd : IsD G W b s
  tt : IsT G W t b z
  w : Below W0.heap.size W0 W
  gw : ∀ k, G k → W0.heap.size ≤ k
  bt : b < M ∧ t < M
  bs : Kd.R Kd.string 9 W M SB vB BS
  rs : KdS.R 81 W M SR vR RS
  nd : ∀ k, SB k → ¬ SR k
  sg : ∀ k, SB k ∨ SR k → G k ∧ M ≤ k
  ml : M ≤ W.heap.size
section
variable {G SB SR : Nat → Prop} {b t M : Nat} {W0 W : World} {z : TS} {s : DS} {vB vR : Value} {BS : List ByteArray} {RS : List (List ByteArray)}
theorem KW.below {W' : World} (h : KW G SB SR b t M W0 W z s vB vR BS RS) (hb : Below W.heap.size W W') : KW G SB SR b t M W0 W' z s vB vR BS RS :=
  ⟨IsD.below h.dd hb, h.tt.below hb, below_step h.w hb, h.gw, h.bt, Kd.R_below h.bs hb, Kd.R_below h.rs hb, h.nd, h.sg, Nat.le_trans h.ml hb.size⟩
theorem KW.act {W' : World} {z' : TS} {s' : DS} (h : KW G SB SR b t M W0 W z s vB vR BS RS) (hT : IsT G W' t b z') (hD : IsD G W' b s') (hW : Ws (TG t b) W W') : KW G SB SR b t M W0 W' z' s' vB vR BS RS := by
  have hg : ∀ k, TG t b k → G k := fun k hk => hk.elim (fun e => e ▸ h.tt.gt) (fun e => e ▸ h.dd.gg)
  have hM : ∀ k, SB k ∨ SR k → ¬ TG t b k := fun k hk e => by
    have h1 := (h.sg k hk).2
    have h2 := h.bt
    rcases e with e | e <;> omega
  exact ⟨hD, hT, hW.below h.w (fun k hk => h.gw k (hg k hk)), h.gw, h.bt, Kd.R_step h.bs (fun k hk hlt => hW.block k hlt (hM k (.inl hk))), Kd.R_step h.rs (fun k hk hlt => hW.block k hlt (hM k (.inr hk))), h.nd, h.sg, Nat.le_trans h.ml hW.size⟩
theorem KW.lts (h : KW G SB SR b t M W0 W z s vB vR BS RS) : ∀ k, SB k ∨ SR k → k < W.heap.size := fun k hk => h.dd.lt k (h.sg k hk).1
theorem KW.appB {W2 W' : World} {v : Value} {BS' : List ByteArray} (h : KW G SB SR b t M W0 W z s vB vR BS RS) (hb : Below W.heap.size W W2) (hg : W2.grownBy W' vB.ownBlock) (hR : Kd.R Kd.string 9 W' M (fun k => SB k ∨ W.heap.size ≤ k) v BS') :
    KW (More G W W') (More SB W W') SR b t M W0 W' z s v vR BS' RS := by
  have hown : ∀ k, vB.ownBlock = some k → SB k := h.bs.1
  have hws : Ws SB W W' := (Ws.of_below hb).trans (Ws.of_grown hg hown)
  have hSG : ∀ k, SB k → G k := fun k hk => (h.sg k (.inl hk)).1
  have hnb : ¬ SB b := fun e => by have := (h.sg b (.inl e)).2; have := h.bt; omega
  have hnt : ¬ SB t := fun e => by have := (h.sg t (.inl e)).2; have := h.bt; omega
  refine ⟨IsD.wsMore h.dd hws hSG hnb, IsT.wsMore h.tt hws hSG hnt, hws.below h.w (fun k hk => h.gw k (hSG k hk)), fun k hk => hk.elim (h.gw k) (fun e => Nat.le_trans h.w.size e.1), h.bt, ?_, ?_, ?_, ?_, Nat.le_trans h.ml hws.size⟩
  · exact Kd.R_mono (Kd.R_bound hR) (fun k hk => hk.1.elim .inl (fun e => .inr ⟨e, hk.2.2.1⟩))
  · exact Kd.R_step h.rs (fun k hk hlt => hws.block k hlt (fun e => h.nd k e hk))
  · intro k hk hk2
    rcases hk with hk | hk
    · exact h.nd k hk hk2
    · have := h.lts k (.inr hk2); omega
  · rintro k ((hk | hk) | hk)
    · exact ⟨.inl (hSG k hk), (h.sg k (.inl hk)).2⟩
    · exact ⟨.inr hk, Nat.le_trans h.ml hk.1⟩
    · exact ⟨.inl (h.sg k (.inr hk)).1, (h.sg k (.inr hk)).2⟩
theorem KW.appR {W2 W' : World} {v : Value} {RS' : List (List ByteArray)} (h : KW G SB SR b t M W0 W z s vB vR BS RS) (hb : Below W.heap.size W W2) (hg : W2.grownBy W' vR.ownBlock) (hR : KdS.R 81 W' M (fun k => SR k ∨ W.heap.size ≤ k) v RS') :
    KW (More G W W') SB (More SR W W') b t M W0 W' z s vB v BS RS' := by
  have hown : ∀ k, vR.ownBlock = some k → SR k := h.rs.1
  have hws : Ws SR W W' := (Ws.of_below hb).trans (Ws.of_grown hg hown)
  have hSG : ∀ k, SR k → G k := fun k hk => (h.sg k (.inr hk)).1
  have hnb : ¬ SR b := fun e => by have := (h.sg b (.inr e)).2; have := h.bt; omega
  have hnt : ¬ SR t := fun e => by have := (h.sg t (.inr e)).2; have := h.bt; omega
  refine ⟨IsD.wsMore h.dd hws hSG hnb, IsT.wsMore h.tt hws hSG hnt, hws.below h.w (fun k hk => h.gw k (hSG k hk)), fun k hk => hk.elim (h.gw k) (fun e => Nat.le_trans h.w.size e.1), h.bt, ?_, ?_, ?_, ?_, Nat.le_trans h.ml hws.size⟩
  · exact Kd.R_step h.bs (fun k hk hlt => hws.block k hlt (fun e => h.nd k hk e))
  · exact Kd.R_mono (Kd.R_bound hR) (fun k hk => hk.1.elim .inl (fun e => .inr ⟨e, hk.2.2.1⟩))
  · intro k hk hk2
    rcases hk2 with hk2 | hk2
    · exact h.nd k hk hk2
    · have := h.lts k (.inl hk); omega
  · rintro k (hk | (hk | hk))
    · exact ⟨.inl (h.sg k (.inl hk)).1, (h.sg k (.inl hk)).2⟩
    · exact ⟨.inl (hSG k hk), (h.sg k (.inr hk)).2⟩
    · exact ⟨.inr hk, Nat.le_trans h.ml hk.1⟩
theorem KW.setR {W2 : World} {g i : Nat} {v : Value} {RS' : List (List ByteArray)} (h : KW G SB SR b t M W0 W z s vB vR BS RS) (hb : Below W.heap.size W W2) (hg : SR g) (hR : KdS.R 81 (W2.setCell ⟨g, i, none⟩ v) M (fun k => SR k ∨ W.heap.size ≤ k) vR RS') :
    KW (More G W W2) SB (More SR W W2) b t M W0 (W2.setCell ⟨g, i, none⟩ v) z s vB vR BS RS' := by
  have hsz : (W2.setCell ⟨g, i, none⟩ v).heap.size = W2.heap.size := by simp
  have hws : Ws SR W (W2.setCell ⟨g, i, none⟩ v) := (Ws.of_below hb).trans (Ws.of_set W2 hg i v)
  have hM : ∀ X, More X W (W2.setCell ⟨g, i, none⟩ v) = More X W W2 := fun X => by unfold More; rw [hsz]
  have hSG : ∀ k, SR k → G k := fun k hk => (h.sg k (.inr hk)).1
  have hnb : ¬ SR b := fun e => by have := (h.sg b (.inr e)).2; have := h.bt; omega
  have hnt : ¬ SR t := fun e => by have := (h.sg t (.inr e)).2; have := h.bt; omega
  refine ⟨by rw [← hM]; exact IsD.wsMore h.dd hws hSG hnb, by rw [← hM]; exact IsT.wsMore h.tt hws hSG hnt, hws.below h.w (fun k hk => h.gw k (hSG k hk)), fun k hk => hk.elim (h.gw k) (fun e => Nat.le_trans h.w.size e.1), h.bt, ?_, ?_, ?_, ?_, Nat.le_trans h.ml hws.size⟩
  · exact Kd.R_step h.bs (fun k hk hlt => hws.block k hlt (fun e => h.nd k hk e))
  · exact Kd.R_mono (Kd.R_bound hR) (fun k hk => hk.1.elim .inl (fun e => .inr ⟨e, by rw [← hsz]; exact hk.2.2.1⟩))
  · intro k hk hk2
    rcases hk2 with hk2 | hk2
    · exact h.nd k hk hk2
    · have := h.lts k (.inl hk); omega
  · rintro k (hk | (hk | hk))
    · exact ⟨.inl (h.sg k (.inl hk)).1, (h.sg k (.inl hk)).2⟩
    · exact ⟨.inl (hSG k hk), (h.sg k (.inr hk)).2⟩
    · exact ⟨.inr hk, Nat.le_trans h.ml hk.1⟩
end
end Go.Proofs.Ytehjbhnlbjbhfaa.Tp
-- TpX
namespace Go.Proofs.Ytehjbhnlbjbhfaa.Tp
open Go Go.RowKit Go.Proofs.YtehjbhnlbjbhfaaW.PrintWords Go.Proofs.YtehjbhnlbjbhfaaW.PrintLast Go.Proofs.YtehjbhnlbjbhfaaW.PrintMore Go.Proofs.Ytehjbhnlbjbhfaa.Wire Go.Proofs.Ytehjbhnlbjbhfaa.Wk Go.Proofs.Ytehjbhnlbjbhfaa.Dk
set_option linter.unusedVariables false
def PL (h : List Int) (l : List (List Int)) (k : Nat) : Nat := ((h :: l.take k).flatMap sealP).length
theorem PL_zero (h : List Int) (l : List (List Int)) : PL h l 0 = (sealP h).length := by unfold PL; simp
theorem PL_succ (h : List Int) (l : List (List Int)) {k : Nat} (hk : k < l.length) : PL h l (k + 1) = PL h l k + (sealP (l.getD k [])).length := by
  unfold PL
  rw [List.take_add_one, List.getD_eq_getElem?_getD, List.getElem?_eq_getElem hk]
  simp only [List.flatMap_cons, List.flatMap_append, List.length_append, Option.toList_some, List.flatMap_nil, Option.getD_some, List.length_nil]
  omega
theorem PL_all (h : List Int) (l : List (List Int)) : PL h l l.length = ((h :: l).flatMap sealP).length := by unfold PL; rw [List.take_length]
theorem PL_mono (h : List Int) (l : List (List Int)) {j k : Nat} (hj : j ≤ k) : PL h l j ≤ PL h l k := by
  unfold PL
  have e : l.take k = l.take j ++ (l.take k).drop j := by
    have := (List.take_append_drop j (l.take k)).symm
    rw [List.take_take, Nat.min_eq_left hj] at this
    exact this
  rw [e]
  simp only [List.flatMap_cons, List.flatMap_append, List.length_append]
  omega
theorem full_take (h : List Int) (l : List (List Int)) (k : Nat) : ((h :: l).flatMap sealP).take (PL h l k) = (h :: l.take k).flatMap sealP := by
  unfold PL
  have e : (h :: l).flatMap sealP = (h :: l.take k).flatMap sealP ++ (l.drop k).flatMap sealP := by
    rw [← List.flatMap_append, List.cons_append, List.take_append_drop]
  rw [e, List.take_left]
structure Hd (gen : Int) (many : Nat) (base : List Int) (l : List (List Int)) : Prop where
  hg : 1 ≤ gen ∧ gen ≤ 1099511627776
  hb : base.length ≤ 8176
  bb : Bs base
  bl : ∀ d ∈ l, Bs d ∧ d.length ≤ 8192
  hm : many ≤ 1099511627776
  head : (headB gen many base).length ≤ 8192
theorem Hd.all {gen : Int} {many : Nat} {base : List Int} {l : List (List Int)} (h : Hd gen many base l) : ∀ d ∈ headB gen many base :: l, Bs d ∧ d.length ≤ 8192 := by
  intro d hd
  rcases List.mem_cons.1 hd with rfl | hd
  · exact ⟨headB_bs (by have := h.hg; omega) (by have := h.hm; omega) h.bb (by have := h.hb; omega), h.head⟩
  · exact h.bl d hd
theorem Hd.cut {gen : Int} {many : Nat} {base : List Int} {l : List (List Int)} (h : Hd gen many base l) (m : Nat) :
    (∃ j, j ≤ l.length ∧ many ≤ j ∧ (readT (((headB gen many base :: l).flatMap sealP).take m)).1 = ⟨gen, base, l.take j⟩ ∧ PL (headB gen many base) l j ≤ m ∧ (m < PL (headB gen many base) l (j + 1) ∨ j = l.length)) ∨
    ((readT (((headB gen many base :: l).flatMap sealP).take m)).1 = noReel ∧ (m < PL (headB gen many base) l many ∨ l.length < many)) := by
  have hall := h.all
  have hbs : Bs ((headB gen many base :: l).flatMap sealP) := flat_bs hall
  have hmany := h.hm
  by_cases c : ((headB gen many base :: l).flatMap sealP).length ≤ m
  · rw [List.take_of_length_le c]
    have hr := readT_recs (gen := gen) (many := many) (base := base) (l := l) (rest := []) (by rw [List.append_nil]; exact hbs) h.head (fun d hd => (h.bl d hd).2) open_nil h.hg (by omega) h.hb
    rw [List.append_nil] at hr
    by_cases c2 : l.length < many
    · rw [if_pos (by omega)] at hr
      exact .inr ⟨by rw [hr], .inr c2⟩
    · rw [if_neg (by omega)] at hr
      exact .inl ⟨l.length, Nat.le_refl _, by omega, by rw [hr, List.take_length], by rw [PL_all]; exact c, .inr rfl⟩
  · obtain ⟨j0, m', h1, h2, h3⟩ := flat_cut (headB gen many base :: l) m (by omega)
    have hlen : m = (((headB gen many base :: l).take j0).flatMap sealP).length + m' := by
      have := congrArg List.length h3
      rw [List.length_append, List.length_take, List.length_take] at this
      omega
    have hd0 : ((headB gen many base :: l).getD j0 []).length ≤ 8192 := by
      rw [List.getD_eq_getElem?_getD, List.getElem?_eq_getElem h1]
      exact (hall _ (List.getElem_mem h1)).2
    have ho : (openP ((sealP ((headB gen many base :: l).getD j0 [])).take m')).2.2 ≠ 0 := by
      rw [open_cut _ hd0 m' h2]; decide
    have hb2 : Bs (((headB gen many base :: l).flatMap sealP).take m) := fun x hx => hbs x (List.mem_of_mem_take hx)
    rw [h3] at hb2 ⊢
    cases j0 with
    | zero =>
      rw [List.take_zero, List.flatMap_nil, List.nil_append] at hb2 ⊢
      rw [List.take_zero, List.flatMap_nil, List.length_nil, Nat.zero_add] at hlen
      rw [List.getD_cons_zero] at *
      refine .inr ⟨by rw [readT_none ho hb2], .inl ?_⟩
      have := PL_mono (headB gen many base) l (Nat.zero_le many)
      rw [PL_zero] at this
      omega
    | succ j =>
      rw [List.take_succ_cons] at hb2 hlen ⊢
      rw [List.getD_cons_succ] at *
      have hj : j < l.length := by rw [List.length_cons] at h1; omega
      have hs := PL_succ (headB gen many base) l hj
      have hr := readT_recs (gen := gen) (many := many) (base := base) (l := l.take j) hb2 h.head (fun d hd => (h.bl d (List.mem_of_mem_take hd)).2) ho h.hg (by omega) h.hb
      have hlj : (l.take j).length = j := by rw [List.length_take]; omega
      rw [hlj] at hr
      have hm : m = PL (headB gen many base) l j + m' := hlen
      by_cases c2 : j < many
      · rw [if_pos (by omega)] at hr
        refine .inr ⟨by rw [hr], .inl ?_⟩
        have := PL_mono (headB gen many base) l (show j + 1 ≤ many from c2)
        omega
      · rw [if_neg (by omega)] at hr
        exact .inl ⟨j, by omega, by omega, by rw [hr], by omega, .inl (by omega)⟩
theorem Hd.gens {gen : Int} {many : Nat} {base : List Int} {l : List (List Int)} (h : Hd gen many base l) (m : Nat) : (readT (((headB gen many base :: l).flatMap sealP).take m)).1.gen ≤ gen := by
  rcases h.cut m with ⟨j, _, _, e, _⟩ | ⟨e, _⟩
  · rw [e]; exact Int.le_refl _
  · rw [e]; show (0 : Int) ≤ gen; have := h.hg; omega
theorem Hd.kept {gen : Int} {many : Nat} {base : List Int} {l : List (List Int)} (h : Hd gen many base l) {k m : Nat} (h1 : many ≤ k) (h2 : k ≤ l.length) (h3 : PL (headB gen many base) l k ≤ m) : ∃ j, k ≤ j ∧ j ≤ l.length ∧ (readT (((headB gen many base :: l).flatMap sealP).take m)).1 = ⟨gen, base, l.take j⟩ := by
  rcases h.cut m with ⟨j, a1, a2, a3, a4, a5⟩ | ⟨_, a⟩
  · refine ⟨j, ?_, a1, a3⟩
    by_cases c : k ≤ j
    · exact c
    · rcases a5 with a5 | a5
      · have := PL_mono (headB gen many base) l (show j + 1 ≤ k by omega)
        omega
      · omega
  · have := PL_mono (headB gen many base) l h1
    omega
theorem Hd.less {gen : Int} {base : List Int} {l : List (List Int)} (h : Hd gen l.length base l) {m : Nat} (h1 : m < ((headB gen l.length base :: l).flatMap sealP).length) : (readT (((headB gen l.length base :: l).flatMap sealP).take m)).1 = noReel := by
  rcases h.cut m with ⟨j, a1, a2, a3, a4, a5⟩ | ⟨a, _⟩
  · have e : j = l.length := by omega
    subst e
    rw [PL_all] at a4
    omega
  · exact a
theorem after_any (f : Fl) (k : Int) : (∃ m, (afterP f k).seen = f.seen.take m ∧ (f.cl = false → f.lasts.length ≤ m)) ∨ (afterP f k).seen = f.lasts := by
  unfold afterP
  split
  · split
    · rename_i c; exact .inl ⟨k.toNat, rfl, fun e => by rw [c] at e; cases e⟩
    · exact .inl ⟨f.lasts.length + k.toNat, rfl, fun _ => by omega⟩
  · exact .inr rfl
structure Aft (gen : Int) (base : List Int) (l : List (List Int)) (k f : Nat) (s : DS) : Prop where
  calm : Calm s
  room : s.room = 2097152
  file : f ≤ 1
  hg : 1 ≤ gen ∧ gen ≤ 100
  size : (l.flatMap sealP).length ≤ 700000
  main : ∃ many q, Hd gen many base l ∧ many ≤ k ∧ k ≤ l.length ∧ PL (headB gen many base) l k ≤ q ∧ (fl s f).seen = ((headB gen many base :: l).flatMap sealP).take q
  other : (readT (fl s (1 - f)).seen).1.gen < gen
  rest : ∀ j, 2 ≤ j → j < 8 → (fl s j).seen = []
theorem used_two {s : DS} (hl : s.fs.length = 8) (h : ∀ j, 2 ≤ j → j < 8 → (fl s j).seen = []) : usedP s = (fl s 0).seen.length + (fl s 1).seen.length := by
  obtain ⟨a0, a1, a2, a3, a4, a5, a6, a7, e⟩ := eight hl
  unfold usedP fl at *
  rw [e] at h ⊢
  have h2 := h 2 (by decide) (by decide)
  have h3 := h 3 (by decide) (by decide)
  have h4 := h 4 (by decide) (by decide)
  have h5 := h 5 (by decide) (by decide)
  have h6 := h 6 (by decide) (by decide)
  have h7 := h 7 (by decide) (by decide)
  simp at h2 h3 h4 h5 h6 h7 ⊢
  simp [h2, h3, h4, h5, h6, h7]
theorem headB_len {gen : Int} {many : Nat} {base : List Int} (hg : 0 ≤ gen ∧ gen < 16384) (hb : base.length ≤ 8176) : (headB gen many base).length ≤ 8190 := by
  obtain ⟨g, rfl⟩ := Int.eq_ofNat_of_zero_le hg.1
  unfold headB recP
  rw [encs_two, Int.toNat_natCast, Int.toNat_natCast]
  simp only [List.length_append]
  have h1 := enc_short (n := g) (by omega)
  have h2 := enc_len 9 many
  have h3 := enc_short (n := base.length) (by omega)
  omega
theorem save_ok {t : TS} {s : DS} {base : List Int} {l : List (List Int)} (hc : Calm s) (hf : t.file ≤ 1) (hg : 0 ≤ t.r.gen ∧ t.r.gen < 1000) (hb : base.length ≤ 8176) (hl : ∀ d ∈ l, d.length ≤ 8192)
    (hr : ((fl s t.file).seen.length : Int) + ((sealP (headB (t.r.gen + 1) l.length base)).length + (l.flatMap sealP).length : Nat) ≤ s.room) (hrest : ∀ j, 2 ≤ j → j < 8 → (fl s j).seen = []) :
    ∃ s', saveP t s base l = (⟨⟨t.r.gen + 1, base, l⟩, 1 - t.file, l.length⟩, s', 0) := by
  have hlt : 1 - t.file < 8 := by omega
  have hcs : ((1 : Int) - (t.file : Int)) = ((1 - t.file : Nat) : Int) := by omega
  have hc1 : Calm (setF s (1 - t.file) ⟨[], (fl s (1 - t.file)).lasts, true⟩) := hc.setF _ _
  have hh : headE (t.r.gen + 1) (l.length : Int) base = (sealP (headB (t.r.gen + 1) l.length base), 0) := by
    unfold headE sealE
    rw [if_neg (by have := headB_len (gen := t.r.gen + 1) (many := l.length) (base := base) (by omega) hb; unfold headB at this; omega)]
    rfl
  have ht : ¬ tooLong l = true := by
    unfold tooLong
    rw [List.any_eq_true]
    rintro ⟨d, hd, e⟩
    have := hl d hd
    have := of_decide_eq_true e
    omega
  have hu : usedP (setF s (1 - t.file) ⟨[], (fl s (1 - t.file)).lasts, true⟩) = (fl s t.file).seen.length := by
    have h1 := used_setF s (i := 1 - t.file) (by rw [hc.len]; omega) ⟨[], (fl s (1 - t.file)).lasts, true⟩
    have h2 := used_two hc.len hrest
    have h3 : t.file = 0 ∨ t.file = 1 := by omega
    simp only [List.length_nil] at h1
    rcases h3 with e | e <;> rw [e] at h1 ⊢ <;> simp only [Nat.sub_zero, Nat.sub_self] at h1 ⊢ <;> omega
  unfold saveP
  rw [if_neg (by omega), if_neg (by omega), hh]
  simp only
  rw [if_neg (fun e => e rfl), if_neg ht]
  unfold saveW
  simp only
  rw [hcs, calm_clear hc hlt]
  simp only
  rw [if_neg (fun e => e rfl), calm_append hc1 hlt, hu]
  have hroom : ¬ (setF s (1 - t.file) ⟨[], (fl s (1 - t.file)).lasts, true⟩).room < ((fl s t.file).seen.length : Int) + ((sealP (headB (t.r.gen + 1) (l.length : Int) base) ++ l.flatMap sealP).length : Int) := by
    rw [List.length_append]; show ¬ s.room < _; omega
  rw [if_neg hroom]
  simp only
  rw [if_neg (fun e => e rfl), calm_sync (hc1.setF _ _) hlt]
  simp only
  rw [if_neg (fun e => e rfl)]
  exact ⟨_, rfl⟩
theorem picked_any {s : DS} {r : Reel} {f : Nat} {b : Bool} (hf : f ≤ 1) (h1 : readT (fl s f).seen = (r, b)) (h2 : (readT (fl s (1 - f)).seen).1.gen < r.gen) (h0 : 0 < r.gen) : (picked s).1.r = r ∧ (picked s).1.file = f ∧ (picked s).2 = b := by
  have h3 : f = 0 ∨ f = 1 := by omega
  unfold picked pick
  rcases h3 with rfl | rfl
  · simp only [Nat.sub_zero] at h2
    simp only
    rw [h1]
    rw [if_pos (show noReel.gen < _ from h0)]
    simp only
    rw [if_neg (by omega)]
    exact ⟨rfl, rfl, rfl⟩
  · simp only [Nat.sub_self] at h2
    simp only
    by_cases c : noReel.gen < (readT (fl s 0).seen).1.gen
    · rw [if_pos c, h1]
      simp only
      rw [if_pos h2]
      exact ⟨rfl, rfl, rfl⟩
    · rw [if_neg c, h1]
      simp only
      rw [if_pos (show noReel.gen < _ from h0)]
      exact ⟨rfl, rfl, rfl⟩
theorem seal_short (d : List Int) : (sealP d).length ≤ d.length + 14 := by
  have h1 := seal_len d
  have h2 := enc_len 9 d.length
  omega
theorem Aft.opens {gen : Int} {base : List Int} {l : List (List Int)} {k f : Nat} {s : DS} (h : Aft gen base l k f s) : ∃ j x s', k ≤ j ∧ j ≤ l.length ∧ openT s = (some x, s', 0) ∧ x.r.base = base ∧ x.r.l = l.take j := by
  obtain ⟨many, q, hd, h1, h2, h3, h4⟩ := h.main
  obtain ⟨j, j1, j2, j3⟩ := hd.kept h1 h2 h3
  have hseen : (fl s f).seen.length ≤ 710000 := by
    have e1 := congrArg List.length h4
    rw [List.length_take] at e1
    have e2 := seal_short (headB gen many base)
    have e3 := hd.head
    have e4 := h.size
    rw [List.flatMap_cons, List.length_append] at e1
    omega
  have hg := h.hg
  rw [← h4] at j3
  obtain ⟨b, hb⟩ : ∃ b, readT (fl s f).seen = (⟨gen, base, l.take j⟩, b) := ⟨_, Prod.ext j3 rfl⟩
  obtain ⟨p1, p2, p3⟩ := picked_any h.file hb h.other (show 0 < gen by omega)
  refine ⟨j, ?_⟩
  unfold openT
  rw [if_neg (fun e => e (able_on (j := 0) (by decide) h.calm.room h.calm.on))]
  simp only
  rw [p1, p2, p3]
  split
  · have hlj : ((l.take j).flatMap sealP).length ≤ (l.flatMap sealP).length := by
      have e : l.flatMap sealP = (l.take j).flatMap sealP ++ (l.drop j).flatMap sealP := by rw [← List.flatMap_append, List.take_append_drop]
      rw [e, List.length_append]; omega
    obtain ⟨s', hs⟩ := save_ok (t := ⟨⟨gen, base, l.take j⟩, f, (l.take j).length⟩) (s := s) (base := base) (l := l.take j) h.calm h.file (by show 0 ≤ gen ∧ gen < 1000; omega) hd.hb (fun d hd2 => (hd.bl d (List.mem_of_mem_take hd2)).2) (by
      have e1 := seal_short (headB (gen + 1) (l.take j).length base)
      have e2 := headB_len (gen := gen + 1) (many := (l.take j).length) (base := base) (by omega) hd.hb
      have e3 := h.size
      rw [h.room]
      show ((fl s f).seen.length : Int) + _ ≤ _
      simp only
      omega) h.rest
    rw [hs]
    simp only
    rw [if_neg (fun e => e rfl)]
    exact ⟨_, _, j1, j2, rfl, rfl, rfl⟩
  · exact ⟨_, _, j1, j2, rfl, rfl, rfl⟩
end Go.Proofs.Ytehjbhnlbjbhfaa.Tp
-- TpY
namespace Go.Proofs.Ytehjbhnlbjbhfaa.Tp
open Go Go.RowKit Go.Proofs.YtehjbhnlbjbhfaaW.PrintWords Go.Proofs.YtehjbhnlbjbhfaaW.PrintLast Go.Proofs.YtehjbhnlbjbhfaaW.PrintMore Go.Proofs.Ytehjbhnlbjbhfaa.Wire Go.Proofs.Ytehjbhnlbjbhfaa.Wk Go.Proofs.Ytehjbhnlbjbhfaa.Dk
set_option linter.unusedVariables false
def Old (f : Fl) (g : Int) : Prop := (∀ m, (readT (f.seen.take m)).1.gen < g) ∧ (readT f.lasts).1.gen < g
theorem Old.after {f : Fl} {g : Int} (h : Old f g) (k : Int) : (readT (afterP f k).seen).1.gen < g := by
  rcases after_any f k with ⟨m, e, _⟩ | e
  · rw [e]; exact h.1 m
  · rw [e]; exact h.2
theorem Old.clear {f : Fl} {g : Int} (h : Old f g) (hg : 0 < g) : Old ⟨[], f.lasts, true⟩ g := ⟨fun m => by rw [List.take_nil, readT_nil]; exact hg, h.2⟩
structure Kp (t : TS) (s : DS) (n : Nat) : Prop where
  on : s.off = false
  room : s.room = 2097152
  len : s.fs.length = 8
  file : t.file ≤ 1
  hg : 1 ≤ t.r.gen ∧ t.r.gen ≤ (n : Int) + 1
  size : (t.r.l.flatMap sealP).length ≤ 90000 + 8300 * n
  kept : t.kept ≤ t.r.l.length
  main : ∃ many, Hd t.r.gen many t.r.base t.r.l ∧ many ≤ t.kept ∧ (fl s t.file).seen = (headB t.r.gen many t.r.base :: t.r.l).flatMap sealP ∧ (fl s t.file).lasts = (headB t.r.gen many t.r.base :: t.r.l.take t.kept).flatMap sealP ∧ (fl s t.file).cl = false
  old : Old (fl s (1 - t.file)) t.r.gen
  rest : ∀ j, 2 ≤ j → j < 8 → (fl s j).seen = [] ∧ (fl s j).lasts = []
theorem Kp.same {t : TS} {s s' : DS} {n : Nat} (h : Kp t s n) (h1 : s'.off = false) (h2 : s'.room = s.room) (h3 : s'.fs = s.fs) : Kp t s' n := by
  have e : ∀ j, fl s' j = fl s j := fun j => by unfold fl; rw [h3]
  refine ⟨h1, h2.trans h.room, h3 ▸ h.len, h.file, h.hg, h.size, h.kept, ?_, ?_, ?_⟩
  · rw [e]; exact h.main
  · rw [e]; exact h.old
  · intro j; rw [e]; exact h.rest j
theorem Kp.mono {t : TS} {s : DS} {n m : Nat} (h : Kp t s n) (hm : n ≤ m) : Kp t s m := ⟨h.on, h.room, h.len, h.file, by have := h.hg; omega, by have := h.size; omega, h.kept, h.main, h.old, h.rest⟩
theorem Kp.over {t : TS} {s : DS} {n : Nat} (h : Kp t s n) {f : Fl} (ho : Old f t.r.gen) : Kp t (setF s (1 - t.file) f) n := by
  have hlt : 1 - t.file < 8 := by omega
  have hf := h.file
  refine ⟨h.on, h.room, by show (s.fs.set _ _).length = 8; rw [List.length_set]; exact h.len, h.file, h.hg, h.size, h.kept, ?_, ?_, ?_⟩
  · rw [fl_setF s h.len hlt, if_neg (by omega)]; exact h.main
  · rw [fl_setF s h.len hlt, if_pos rfl]; exact ho
  · intro j j1 j2; rw [fl_setF s h.len hlt, if_neg (by omega)]; exact h.rest j j1 j2
def upP (s : DS) (keep : List Int) : DS := { fallP s keep with off := false }
theorem up_fl {s : DS} (h : s.fs.length = 8) (keep : List Int) {j : Nat} (hj : j < 8) : fl (upP s keep) j = afterP (fl s j) (kv keep j) := fl_fall h keep hj
theorem up_calm {s : DS} (h : s.fs.length = 8) (hr : s.room = 2097152) (keep : List Int) : Calm (upP s keep) :=
  ⟨by show s.room ≠ 0; rw [hr]; decide, rfl, rfl, by show (fallFs keep 0 s.fs).length = 8; rw [fall_len]; exact h⟩
theorem after_rest {f : Fl} (h1 : f.seen = []) (h2 : f.lasts = []) (k : Int) : (afterP f k).seen = [] := by
  rcases after_any f k with ⟨m, e, _⟩ | e
  · rw [e, h1, List.take_nil]
  · rw [e, h2]
theorem after_main {gen : Int} {many k : Nat} {base : List Int} {l : List (List Int)} {f : Fl} {q : Nat} (h1 : f.seen = ((headB gen many base :: l).flatMap sealP).take q) (h2 : f.lasts = (headB gen many base :: l.take k).flatMap sealP) (h3 : PL (headB gen many base) l k ≤ q) (h4 : f.cl = false) (kk : Int) :
    ∃ q', PL (headB gen many base) l k ≤ q' ∧ (afterP f kk).seen = ((headB gen many base :: l).flatMap sealP).take q' := by
  rcases after_any f kk with ⟨m, e, hm⟩ | e
  · have h5 := hm h4
    rw [h2] at h5
    refine ⟨min m q, ?_, by rw [e, h1, List.take_take]⟩
    have : PL (headB gen many base) l k ≤ m := h5
    omega
  · exact ⟨PL (headB gen many base) l k, Nat.le_refl _, by rw [e, h2, full_take]⟩
theorem Kp.aft {t : TS} {s : DS} {n : Nat} (h : Kp t s n) (hn : n ≤ 64) (keep : List Int) : Aft t.r.gen t.r.base t.r.l t.kept t.file (upP s keep) := by
  obtain ⟨many, h1, h2, h3, h4, h5⟩ := h.main
  have hf := h.file
  obtain ⟨q', a1, a2⟩ := after_main (f := fl s t.file) (q := ((headB t.r.gen many t.r.base :: t.r.l).flatMap sealP).length) (by rw [List.take_length]; exact h3) h4 (by rw [← PL_all]; exact PL_mono _ _ h.kept) h5 (kv keep t.file)
  refine ⟨up_calm h.len h.room keep, h.room, h.file, by have := h.hg; omega, by have := h.size; omega, ⟨many, q', h1, h2, h.kept, a1, ?_⟩, ?_, ?_⟩
  · rw [up_fl h.len keep (by omega)]; exact a2
  · rw [up_fl h.len keep (by omega)]; exact h.old.after _
  · intro j j1 j2
    rw [up_fl h.len keep j2]
    exact after_rest (h.rest j j1 j2).1 (h.rest j j1 j2).2 _
theorem act_two {s : DS} (hok : Ok s) (n : Nat) (done : DS → Nat → DS) :
    (actP s n done = (done (burnS s n) n, 0)) ∨ ∃ m, m ≤ n ∧ (n = 1 → m = 1) ∧ actP s n done = (fallP (done (burnS s n) m) s.keep, 50) := by
  unfold actP
  by_cases c : struckP s n = true
  · rw [if_pos c]
    unfold struckP at c
    have c' : s.set = true ∧ s.left ≤ (n : Int) := by simpa using c
    have hf := hok.fuse c'.1
    refine .inr ⟨burnN s n, ?_, ?_, rfl⟩
    · unfold burnN; rw [if_pos c']; omega
    · intro e; unfold burnN; rw [if_pos c']; omega
  · rw [if_neg c]
    have e : burnN s n = n := by
      unfold burnN struckP at *
      rw [if_neg (fun h => c (by simpa using h))]
    rw [e]
    exact .inl rfl
theorem Kp.burn {t : TS} {s : DS} {n : Nat} (h : Kp t s n) (m : Nat) : Kp t (burnS s m) n := by
  obtain ⟨b1, b2, b3, b4, b5⟩ := burn_fs s m
  exact h.same (b4.trans h.on) b3 b1
theorem on_append {s : DS} {j : Nat} (hj : j < 8) (hr : s.room = 2097152) (ho : s.off = false) (b : List Int) : appendP s (j : Int) b = if s.room < (usedP s : Int) + (b.length : Int) then (s, 7) else actP s b.length (doneA j b) := by
  unfold appendP
  rw [if_neg (fun e => e (able_on hj (by rw [hr]; decide) ho)), Int.toNat_natCast]
theorem on_clear {s : DS} {j : Nat} (hj : j < 8) (hr : s.room = 2097152) (ho : s.off = false) : clearP s (j : Int) = actP s 1 (doneC j) := by
  unfold clearP
  rw [if_neg (fun e => e (able_on hj (by rw [hr]; decide) ho)), Int.toNat_natCast]
theorem on_sync {s : DS} {j : Nat} (hj : j < 8) (hr : s.room = 2097152) (ho : s.off = false) : syncP s (j : Int) = actP s 1 (doneY j) := by
  unfold syncP
  rw [if_neg (fun e => e (able_on hj (by rw [hr]; decide) ho)), Int.toNat_natCast]
theorem Kp.put {t : TS} {s : DS} {n : Nat} (h : Kp t s n) (hn : n ≤ 62) (hok : Ok s) {d : List Int} (hd : Bs d) :
    ((putP t s d).2.2 = 0 ∧ Kp (putP t s d).1 (putP t s d).2.1 (n + 1) ∧ (putP t s d).1.r = ⟨t.r.gen, t.r.base, t.r.l ++ [d]⟩ ∧ (putP t s d).1.kept = t.kept) ∨
    ((putP t s d).2.2 = 50 ∧ Aft t.r.gen t.r.base (t.r.l ++ [d]) t.kept t.file { (putP t s d).2.1 with off := false }) ∨
    ((putP t s d).2.2 ≠ 0 ∧ (putP t s d).2.2 ≠ 50 ∧ putP t s d = (t, s, (putP t s d).2.2)) := by
  unfold putP
  by_cases c : 8192 < d.length
  · rw [if_pos c]; exact .inr (.inr ⟨(show (4 : Int) ≠ 0 by decide), (show (4 : Int) ≠ 50 by decide), rfl⟩)
  rw [if_neg c]
  have hf := h.file
  have hlt : t.file < 8 := by omega
  rw [on_append hlt h.room h.on]
  by_cases c2 : s.room < (usedP s : Int) + ((sealP d).length : Int)
  · rw [if_pos c2]
    simp only
    rw [if_pos (show (7 : Int) ≠ 0 by decide)]
    exact .inr (.inr ⟨(show (7 : Int) ≠ 0 by decide), (show (7 : Int) ≠ 50 by decide), rfl⟩)
  rw [if_neg c2]
  have hb := h.burn (sealP d).length
  obtain ⟨many, m1, m2, m3, m4, m5⟩ := hb.main
  have hH : Hd t.r.gen many t.r.base (t.r.l ++ [d]) := ⟨m1.hg, m1.hb, m1.bb, fun x hx => by
    rcases List.mem_append.1 hx with hx | hx
    · exact m1.bl x hx
    · rw [List.mem_singleton.1 hx]; exact ⟨hd, by omega⟩, m1.hm, m1.head⟩
  have hfull : (headB t.r.gen many t.r.base :: (t.r.l ++ [d])).flatMap sealP = (headB t.r.gen many t.r.base :: t.r.l).flatMap sealP ++ sealP d := by simp
  have hsz : ((t.r.l ++ [d]).flatMap sealP).length ≤ 90000 + 8300 * (n + 1) := by
    have h1 := seal_short d
    have h2 := h.size
    simp only [List.flatMap_append, List.length_append, List.flatMap_cons, List.flatMap_nil, List.length_nil]
    omega
  have hsz2 : ((t.r.l ++ [d]).flatMap sealP).length ≤ 700000 := Nat.le_trans hsz (by omega)
  have hg2 : 1 ≤ t.r.gen ∧ t.r.gen ≤ 100 := by have := h.hg; omega
  have htk : (t.r.l ++ [d]).take t.kept = t.r.l.take t.kept := List.take_append_of_le_length h.kept
  have hk2 : t.kept ≤ (t.r.l ++ [d]).length := by rw [List.length_append]; have := h.kept; omega
  rcases act_two hok (sealP d).length (doneA t.file (sealP d)) with e | ⟨m, hm, _, e⟩
  · rw [e]
    simp only
    rw [if_neg (fun e => e rfl)]
    refine .inl ⟨rfl, ⟨hb.on, hb.room, by show (List.set _ _ _).length = 8; rw [List.length_set]; exact hb.len, h.file, by have := h.hg; show 1 ≤ t.r.gen ∧ t.r.gen ≤ _; omega, hsz, hk2, ⟨many, hH, m2, ?_, ?_, ?_⟩, ?_, ?_⟩, rfl, rfl⟩
    · show (fl (setF _ t.file _) t.file).seen = _
      rw [fl_setF _ hb.len hlt, if_pos rfl]
      show (fl (burnS s _) t.file).seen ++ (sealP d).take _ = _
      rw [List.take_length, m3, hfull]
    · show (fl (setF _ t.file _) t.file).lasts = (headB t.r.gen many t.r.base :: (t.r.l ++ [d]).take t.kept).flatMap sealP
      rw [fl_setF _ hb.len hlt, if_pos rfl, htk]
      exact m4
    · show (fl (setF _ t.file _) t.file).cl = _
      rw [fl_setF _ hb.len hlt, if_pos rfl]
      exact m5
    · show Old (fl (setF _ t.file _) (1 - t.file)) _
      rw [fl_setF _ hb.len hlt, if_neg (by omega)]
      exact hb.old
    · intro j j1 j2
      show (fl (setF _ t.file _) j).seen = [] ∧ (fl (setF _ t.file _) j).lasts = []
      rw [fl_setF _ hb.len hlt, if_neg (by omega)]
      exact hb.rest j j1 j2
  · rw [e]
    simp only
    rw [if_pos (show (50 : Int) ≠ 0 by decide)]
    refine .inr (.inl ⟨rfl, ?_⟩)
    show Aft _ _ _ _ _ (upP (doneA t.file (sealP d) (burnS s (sealP d).length) m) s.keep)
    have hl2 : (doneA t.file (sealP d) (burnS s (sealP d).length) m).fs.length = 8 := by show (List.set _ _ _).length = 8; rw [List.length_set]; exact hb.len
    have hfl : ∀ j, fl (doneA t.file (sealP d) (burnS s (sealP d).length) m) j = if t.file = j then ⟨(fl (burnS s (sealP d).length) t.file).seen ++ (sealP d).take m, (fl (burnS s (sealP d).length) t.file).lasts, (fl (burnS s (sealP d).length) t.file).cl⟩ else fl (burnS s (sealP d).length) j := fun j => fl_setF _ hb.len hlt _ j
    obtain ⟨q', a1, a2⟩ := after_main (gen := t.r.gen) (many := many) (base := t.r.base) (l := t.r.l ++ [d]) (k := t.kept) (f := fl (doneA t.file (sealP d) (burnS s (sealP d).length) m) t.file) (q := ((headB t.r.gen many t.r.base :: t.r.l).flatMap sealP).length + m) (by
      rw [hfl, if_pos rfl, hfull, List.take_length_add_append, m3]) (by rw [hfl, if_pos rfl, htk]; exact m4) (by
      have h1 : PL (headB t.r.gen many t.r.base) (t.r.l ++ [d]) t.kept = PL (headB t.r.gen many t.r.base) t.r.l t.kept := by unfold PL; rw [htk]
      have h2 := PL_mono (headB t.r.gen many t.r.base) t.r.l h.kept
      rw [PL_all] at h2
      omega) (by rw [hfl, if_pos rfl]; exact m5) (kv s.keep t.file)
    have hro : (doneA t.file (sealP d) (burnS s (sealP d).length) m).room = 2097152 := hb.room
    refine ⟨up_calm hl2 hro _, hro, h.file, hg2, hsz2, ⟨many, q', hH, m2, hk2, a1, ?_⟩, ?_, ?_⟩
    · rw [up_fl hl2 _ hlt]; exact a2
    · rw [up_fl hl2 _ (by omega), hfl, if_neg (by omega)]; exact hb.old.after _
    · intro j j1 j2
      rw [up_fl hl2 _ j2, hfl, if_neg (by omega)]
      exact after_rest (hb.rest j j1 j2).1 (hb.rest j j1 j2).2 _
theorem Kp.done {t : TS} {s : DS} {n : Nat} (h : Kp t s n) : Kp ⟨t.r, t.file, t.r.l.length⟩ (doneY t.file s 1) n := by
  have hf := h.file
  have hlt : t.file < 8 := by omega
  obtain ⟨many, m1, m2, m3, m4, m5⟩ := h.main
  have hk := h.kept
  have e : doneY t.file s 1 = setF s t.file ⟨(fl s t.file).seen, (fl s t.file).seen, false⟩ := rfl
  rw [e]
  refine ⟨h.on, h.room, by show (List.set _ _ _).length = 8; rw [List.length_set]; exact h.len, h.file, h.hg, h.size, Nat.le_refl _, ⟨many, m1, by show many ≤ t.r.l.length; omega, ?_, ?_, ?_⟩, ?_, ?_⟩
  · show (fl (setF s t.file _) t.file).seen = _
    rw [fl_setF _ h.len hlt, if_pos rfl]; exact m3
  · show (fl (setF s t.file _) t.file).lasts = (_ :: t.r.l.take t.r.l.length).flatMap sealP
    rw [fl_setF _ h.len hlt, if_pos rfl, List.take_length]; exact m3
  · show (fl (setF s t.file _) t.file).cl = _
    rw [fl_setF _ h.len hlt, if_pos rfl]
  · show Old (fl (setF s t.file _) (1 - t.file)) t.r.gen
    rw [fl_setF _ h.len hlt, if_neg (by omega)]; exact h.old
  · intro j j1 j2
    rw [fl_setF _ h.len hlt, if_neg (by omega)]; exact h.rest j j1 j2
theorem Kp.sync {t : TS} {s : DS} {n : Nat} (h : Kp t s n) (hn : n ≤ 62) (hok : Ok s) :
    ((syncT t s).2.2 = 0 ∧ Kp (syncT t s).1 (syncT t s).2.1 (n + 1) ∧ (syncT t s).1.r = t.r ∧ (syncT t s).1.kept = t.r.l.length) ∨
    ((syncT t s).2.2 = 50 ∧ Aft t.r.gen t.r.base t.r.l t.r.l.length t.file { (syncT t s).2.1 with off := false }) := by
  have hf := h.file
  have hlt : t.file < 8 := by omega
  unfold syncT
  rw [on_sync hlt h.room h.on]
  rcases act_two hok 1 (doneY t.file) with e | ⟨m, _, hm, e⟩
  · rw [e]
    simp only
    rw [if_neg (fun e => e rfl)]
    exact .inl ⟨rfl, (h.burn 1).done.mono (Nat.le_succ _), rfl, rfl⟩
  · rw [e, hm rfl]
    simp only
    rw [if_pos (show (50 : Int) ≠ 0 by decide)]
    exact .inr ⟨rfl, (h.burn 1).done.aft (by omega) _⟩
theorem Kp.saves {t : TS} {s : DS} {n : Nat} (h : Kp t s n) (hn : n ≤ 62) (hok : Okk s) {base : List Int} {l : List (List Int)} (hb : Bs base) (hl : ∀ d ∈ l, Bs d) (hz : sz l ≤ 16384) :
    ((saveP t s base l).2.2 = 0 ∧ Kp (saveP t s base l).1 (saveP t s base l).2.1 (n + 1) ∧ (saveP t s base l).1.r = ⟨t.r.gen + 1, base, l⟩ ∧ (saveP t s base l).1.kept = l.length) ∨
    ((saveP t s base l).2.2 = 50 ∧ (Aft t.r.gen t.r.base t.r.l t.kept t.file { (saveP t s base l).2.1 with off := false } ∨ Aft (t.r.gen + 1) base l l.length (1 - t.file) { (saveP t s base l).2.1 with off := false })) ∨
    ((saveP t s base l).2.2 ≠ 0 ∧ (saveP t s base l).2.2 ≠ 50 ∧ Kp t (saveP t s base l).2.1 (n + 1) ∧ (saveP t s base l).1 = t) := by
  have hg := h.hg
  have hf := h.file
  have hlt : 1 - t.file < 8 := by omega
  have hlt2 : t.file < 8 := by omega
  have hk1 := h.mono (Nat.le_succ n)
  unfold saveP
  by_cases c1 : 1099511627776 ≤ t.r.gen
  · rw [if_pos c1]; exact .inr (.inr ⟨(show (5 : Int) ≠ 0 by decide), (show (5 : Int) ≠ 50 by decide), hk1, rfl⟩)
  rw [if_neg c1]
  by_cases c2 : 8176 < base.length
  · rw [if_pos c2]; exact .inr (.inr ⟨(show (4 : Int) ≠ 0 by decide), (show (4 : Int) ≠ 50 by decide), hk1, rfl⟩)
  rw [if_neg c2]
  by_cases c3 : (headE (t.r.gen + 1) (l.length : Int) base).2 ≠ 0
  · rw [if_pos c3, headE_err c3]; exact .inr (.inr ⟨(show (4 : Int) ≠ 0 by decide), (show (4 : Int) ≠ 50 by decide), hk1, rfl⟩)
  rw [if_neg c3]
  by_cases c4 : tooLong l = true
  · rw [if_pos c4]; exact .inr (.inr ⟨(show (4 : Int) ≠ 0 by decide), (show (4 : Int) ≠ 50 by decide), hk1, rfl⟩)
  rw [if_neg c4]
  obtain ⟨q1, q2⟩ := headE_zero (Decidable.of_not_not c3)
  have hcs : ((1 : Int) - (t.file : Int)) = ((1 - t.file : Nat) : Int) := by omega
  have hll : l.length ≤ 4096 := by have := sz_len l; omega
  have hH : Hd (t.r.gen + 1) l.length base l := ⟨by omega, by omega, hb, fun d hd => ⟨hl d hd, tooLong_not c4 d hd⟩, by omega, q1⟩
  have hall : (headE (t.r.gen + 1) (l.length : Int) base).1 ++ l.flatMap sealP = (headB (t.r.gen + 1) l.length base :: l).flatMap sealP := by rw [q2, List.flatMap_cons]
  rw [hall]
  have hsz : (l.flatMap sealP).length ≤ 90000 := by
    have : ∀ m : List (List Int), (m.flatMap sealP).length ≤ sz m + 10 * m.length := by
      intro m
      induction m with
      | nil => exact Nat.zero_le _
      | cons a m ih =>
        have e1 : sz (a :: m) = 4 + a.length + sz m := rfl
        have e2 := seal_short a
        rw [List.flatMap_cons, List.length_append, List.length_cons]
        omega
    have := this l
    omega
  generalize hA : (headB (t.r.gen + 1) l.length base :: l).flatMap sealP = all at *
  have hcut : ∀ m, m < all.length → (readT (all.take m)).1 = noReel := by
    intro m hm
    have := hH.less (m := m) (by rw [hA]; exact hm)
    rw [hA] at this
    exact this
  unfold saveW
  simp only
  rw [hcs, on_clear hlt h.room h.on]
  have hb0 := h.burn 1
  have hC : doneC (1 - t.file) (burnS s 1) 1 = setF (burnS s 1) (1 - t.file) ⟨[], (fl (burnS s 1) (1 - t.file)).lasts, true⟩ := rfl
  have hkC : Kp t (doneC (1 - t.file) (burnS s 1) 1) n := by rw [hC]; exact hb0.over (hb0.old.clear (by omega))
  have hokC : Okk (doneC (1 - t.file) (burnS s 1) 1) := ⟨(hok.1.burn 1).doneC hlt 1, by rw [keepC]; exact hok.2⟩
  have hside : ∀ (s2 : DS) (f : Fl) (kp : List Int), s2.fs.length = 8 → s2.room = 2097152 → (∀ j, fl s2 j = fl s j ∨ j = 1 - t.file) →
      (((∃ m, all.length ≤ m ∧ (afterP f (kv kp (1 - t.file))).seen = all.take m) → Aft (t.r.gen + 1) base l l.length (1 - t.file) (upP (setF s2 (1 - t.file) f) kp)) ∧
        ((readT (afterP f (kv kp (1 - t.file))).seen).1.gen < t.r.gen → Aft t.r.gen t.r.base t.r.l t.kept t.file (upP (setF s2 (1 - t.file) f) kp))) := by
    intro s2 f kp h2l h2r h2f
    have hln : (setF s2 (1 - t.file) f).fs.length = 8 := by show (List.set _ _ _).length = 8; rw [List.length_set]; exact h2l
    have hro : (setF s2 (1 - t.file) f).room = 2097152 := h2r
    have hsz2 : (l.flatMap sealP).length ≤ 700000 := Nat.le_trans hsz (by decide)
    have hg2 : 1 ≤ t.r.gen + 1 ∧ t.r.gen + 1 ≤ 100 := by omega
    have hsz3 : (t.r.l.flatMap sealP).length ≤ 700000 := Nat.le_trans h.size (by omega)
    have hg3 : 1 ≤ t.r.gen ∧ t.r.gen ≤ 100 := by omega
    have hm2 : fl s2 t.file = fl s t.file := (h2f t.file).elim id (fun e => by omega)
    obtain ⟨many, m1, m2, m3, m4, m5⟩ := h.main
    rw [← hm2] at m3 m4 m5
    obtain ⟨q', a1, a2⟩ := after_main (f := fl s2 t.file) (q := ((headB t.r.gen many t.r.base :: t.r.l).flatMap sealP).length) (by rw [List.take_length]; exact m3) m4 (by rw [← PL_all]; exact PL_mono _ _ h.kept) m5 (kv kp t.file)
    have hrest : ∀ j, 2 ≤ j → j < 8 → (fl (upP (setF s2 (1 - t.file) f) kp) j).seen = [] := by
      intro j j1 j2
      rw [up_fl hln _ j2, fl_setF _ h2l hlt, if_neg (by omega), (h2f j).elim id (fun e => by omega)]
      exact after_rest (h.rest j j1 j2).1 (h.rest j j1 j2).2 _
    refine ⟨fun hs => ?_, fun hs => ?_⟩
    · obtain ⟨m, hm, hs⟩ := hs
      refine ⟨up_calm hln hro _, hro, by omega, hg2, hsz2, ⟨l.length, m, hH, Nat.le_refl _, Nat.le_refl _, by rw [PL_all, hA]; exact hm, ?_⟩, ?_, hrest⟩
      · rw [up_fl hln _ hlt, fl_setF _ h2l hlt, if_pos rfl, hA]; exact hs
      · rw [show 1 - (1 - t.file) = t.file by omega, up_fl hln _ hlt2, fl_setF _ h2l hlt, if_neg (by omega), a2]
        have := m1.gens q'
        omega
    · refine ⟨up_calm hln hro _, hro, h.file, hg3, hsz3, ⟨many, q', m1, m2, h.kept, a1, ?_⟩, ?_, hrest⟩
      · rw [up_fl hln _ hlt2, fl_setF _ h2l hlt, if_neg (by omega)]; exact a2
      · rw [up_fl hln _ hlt, fl_setF _ h2l hlt, if_pos rfl]; exact hs
  rcases act_two hok.1 1 (doneC (1 - t.file)) with e | ⟨m, _, hm, e⟩
  · rw [e]
    simp only
    rw [if_neg (fun e => e rfl)]
    generalize hs1 : doneC (1 - t.file) (burnS s 1) 1 = s1 at *
    have hf1 : (fl s1 (1 - t.file)).seen = [] ∧ (fl s1 (1 - t.file)).cl = true := by
      rw [hC, fl_setF _ hb0.len hlt, if_pos rfl]; exact ⟨rfl, rfl⟩
    rw [on_append hlt hkC.room hkC.on]
    by_cases c5 : s1.room < (usedP s1 : Int) + (all.length : Int)
    · rw [if_pos c5]
      simp only
      rw [if_pos (show (7 : Int) ≠ 0 by decide)]
      exact .inr (.inr ⟨(show (7 : Int) ≠ 0 by decide), (show (7 : Int) ≠ 50 by decide), hkC.mono (Nat.le_succ _), rfl⟩)
    rw [if_neg c5]
    have hb1 := hkC.burn all.length
    have hf2 : fl (burnS s1 all.length) (1 - t.file) = fl s1 (1 - t.file) := fl_burn _ _ _
    have hF1 : ∀ j, j ≠ 1 - t.file → fl (burnS s1 all.length) j = fl s j := by
      intro j ej
      rw [fl_burn, hC, fl_setF _ hb0.len hlt, if_neg (fun e => ej e.symm), fl_burn]
    have hDA : ∀ m, doneA (1 - t.file) all (burnS s1 all.length) m = setF (burnS s1 all.length) (1 - t.file) ⟨all.take m, (fl s1 (1 - t.file)).lasts, true⟩ := by
      intro m
      unfold doneA
      rw [hf2, hf1.1, hf1.2, List.nil_append]
    rcases act_two hokC.1 all.length (doneA (1 - t.file) all) with e2 | ⟨m, hm, _, e2⟩
    · rw [e2]
      simp only
      rw [if_neg (fun e => e rfl)]
      have hokA : Okk (doneA (1 - t.file) all (burnS s1 all.length) all.length) := ⟨(hokC.1.burn _).doneA hlt all _ (by rw [fl_burn]; exact fits hokC.1 hlt all c5), by rw [keepA]; exact hokC.2⟩
      rw [hDA, List.take_length] at hokA
      rw [hDA, List.take_length]
      have hon2 : (setF (burnS s1 all.length) (1 - t.file) ⟨all, (fl s1 (1 - t.file)).lasts, true⟩).off = false := hb1.on
      have hro2 : (setF (burnS s1 all.length) (1 - t.file) ⟨all, (fl s1 (1 - t.file)).lasts, true⟩).room = 2097152 := hb1.room
      have hln2 : (setF (burnS s1 all.length) (1 - t.file) ⟨all, (fl s1 (1 - t.file)).lasts, true⟩).fs.length = 8 := by show (List.set _ _ _).length = 8; rw [List.length_set]; exact hb1.len
      have hfl2 : ∀ j, fl (setF (burnS s1 all.length) (1 - t.file) ⟨all, (fl s1 (1 - t.file)).lasts, true⟩) j = if 1 - t.file = j then ⟨all, (fl s1 (1 - t.file)).lasts, true⟩ else fl (burnS s1 all.length) j := fun j => fl_setF _ hb1.len hlt _ j
      rw [on_sync hlt hro2 hon2]
      have hDY : ∀ s3 : DS, s3.fs.length = 8 → (∀ j, fl s3 j = fl (setF (burnS s1 all.length) (1 - t.file) ⟨all, (fl s1 (1 - t.file)).lasts, true⟩) j) → doneY (1 - t.file) s3 1 = setF s3 (1 - t.file) ⟨all, all, false⟩ := by
        intro s3 _ h3
        show setF s3 (1 - t.file) ⟨(fl s3 (1 - t.file)).seen, (fl s3 (1 - t.file)).seen, false⟩ = _
        rw [h3, hfl2, if_pos rfl]
      have hbn := burn_fs (setF (burnS s1 all.length) (1 - t.file) ⟨all, (fl s1 (1 - t.file)).lasts, true⟩) 1
      have hY := hDY (burnS (setF (burnS s1 all.length) (1 - t.file) ⟨all, (fl s1 (1 - t.file)).lasts, true⟩) 1) (by rw [hbn.1]; exact hln2) (fun j => fl_burn _ _ _)
      rcases act_two hokA.1 1 (doneY (1 - t.file)) with e3 | ⟨m, _, hm, e3⟩
      · rw [e3]
        simp only
        rw [if_neg (fun e => e rfl), hY]
        generalize hs3 : burnS (setF (burnS s1 all.length) (1 - t.file) ⟨all, (fl s1 (1 - t.file)).lasts, true⟩) 1 = s3 at *
        have hl3 : s3.fs.length = 8 := by rw [hbn.1]; exact hln2
        have hf3 : ∀ j, fl s3 j = fl (setF (burnS s1 all.length) (1 - t.file) ⟨all, (fl s1 (1 - t.file)).lasts, true⟩) j := fun j => by rw [← hs3]; exact fl_burn _ _ _
        obtain ⟨many, m1, m2, m3, m4, m5⟩ := hb1.main
        refine .inl ⟨rfl, ⟨by show s3.off = false; rw [hbn.2.2.2.1]; exact hon2, by show s3.room = _; rw [hbn.2.2.1]; exact hro2, by show (List.set _ _ _).length = 8; rw [List.length_set]; exact hl3, by show 1 - t.file ≤ 1; omega, by show 1 ≤ t.r.gen + 1 ∧ t.r.gen + 1 ≤ _; omega, Nat.le_trans hsz (Nat.le_add_right _ _), Nat.le_refl _, ⟨l.length, hH, Nat.le_refl _, ?_, ?_, ?_⟩, ?_, ?_⟩, rfl, rfl⟩
        · show (fl (setF s3 (1 - t.file) _) (1 - t.file)).seen = (headB (t.r.gen + 1) l.length base :: l).flatMap sealP
          rw [fl_setF _ hl3 hlt, if_pos rfl, hA]
        · show (fl (setF s3 (1 - t.file) _) (1 - t.file)).lasts = (headB (t.r.gen + 1) l.length base :: l.take l.length).flatMap sealP
          rw [fl_setF _ hl3 hlt, if_pos rfl, List.take_length, hA]
        · show (fl (setF s3 (1 - t.file) _) (1 - t.file)).cl = false
          rw [fl_setF _ hl3 hlt, if_pos rfl]
        · show Old (fl (setF s3 (1 - t.file) _) (1 - (1 - t.file))) (t.r.gen + 1)
          rw [show 1 - (1 - t.file) = t.file by omega, fl_setF _ hl3 hlt, if_neg (by omega), hf3, hfl2, if_neg (by omega)]
          refine ⟨fun m => ?_, ?_⟩
          · rw [m3]; have := m1.gens m; omega
          · rw [m4, ← full_take]; have := m1.gens (PL (headB t.r.gen many t.r.base) t.r.l t.kept); omega
        · intro j j1 j2
          show (fl (setF s3 (1 - t.file) _) j).seen = [] ∧ (fl (setF s3 (1 - t.file) _) j).lasts = []
          rw [fl_setF _ hl3 hlt, if_neg (by omega), hf3, hfl2, if_neg (by omega)]
          exact hb1.rest j j1 j2
      · rw [e3, hm rfl]
        simp only
        rw [if_pos (show (50 : Int) ≠ 0 by decide), hY]
        refine .inr (.inl ⟨rfl, .inr ?_⟩)
        refine (hside _ ⟨all, all, false⟩ _ (by rw [hbn.1]; exact hln2) (by rw [hbn.2.2.1]; exact hro2) (fun j => ?_)).1 ⟨all.length, Nat.le_refl _, ?_⟩
        · by_cases ej : j = 1 - t.file
          · exact .inr ej
          · exact .inl (by rw [fl_burn, hfl2, if_neg (fun e => ej e.symm), hF1 j ej])
        · rw [List.take_length]
          rcases after_any ⟨all, all, false⟩ (kv (setF (burnS s1 all.length) (1 - t.file) ⟨all, (fl s1 (1 - t.file)).lasts, true⟩).keep (1 - t.file)) with ⟨m2, e4, hm2⟩ | e4
          · rw [e4]; exact List.take_of_length_le (hm2 rfl)
          · rw [e4]
    · rw [e2]
      simp only
      rw [if_pos (show (50 : Int) ≠ 0 by decide), hDA]
      refine .inr (.inl ⟨rfl, ?_⟩)
      have hS := hside (burnS s1 all.length) ⟨all.take m, (fl s1 (1 - t.file)).lasts, true⟩ s1.keep hb1.len hb1.room (fun j => by
        by_cases ej : j = 1 - t.file
        · exact .inr ej
        · exact .inl (hF1 j ej))
      rcases after_any ⟨all.take m, (fl s1 (1 - t.file)).lasts, true⟩ (kv s1.keep (1 - t.file)) with ⟨m2, e4, _⟩ | e4
      · by_cases c7 : all.length ≤ min m2 m
        · exact .inr (hS.1 ⟨min m2 m, c7, by rw [e4, List.take_take]⟩)
        · refine .inl (hS.2 ?_)
          rw [e4, List.take_take, hcut _ (by omega)]
          show (0 : Int) < t.r.gen
          omega
      · refine .inl (hS.2 ?_)
        rw [e4]
        exact hkC.old.2
  · rw [e, hm rfl]
    simp only
    rw [if_pos (show (50 : Int) ≠ 0 by decide)]
    exact .inr (.inl ⟨rfl, .inl (hkC.aft (by omega) _)⟩)
end Go.Proofs.Ytehjbhnlbjbhfaa.Tp
-- TkD
namespace Go.Proofs.Ytehjbhnlbjbhfaa.Tp
open Go Go.RowKit Go.Proofs.YtehjbhnlbjbhfaaW.PrintWords Go.Proofs.YtehjbhnlbjbhfaaW.PrintLast Go.Proofs.YtehjbhnlbjbhfaaW.PrintMore Go.Proofs.Ytehjbhnlbjbhfaa.Wire Go.Proofs.Ytehjbhnlbjbhfaa.Wk Go.Proofs.Ytehjbhnlbjbhfaa.Dk
open Go.Proofs.Ytehjbhnlbjbhfaa.PTapePlays Go.Proofs.Ytehjbhnlbjbhfaa.Rt
set_option linter.unusedVariables false
set_option linter.unusedSimpArgs false
def Last (BS : List ByteArray) (RS : List (List ByteArray)) (base : List Int) (l : List (List Int)) : Prop := ∃ i, BS.length = i + 1 ∧ RS.length = i + 1 ∧ BS[i]? = some (strOfNums base) ∧ RS[i]? = some (l.map strOfNums)
def Struck (z : TS) (s : DS) (bs : List Int) (ls : List (List Int)) (kept : Nat) (BS : List ByteArray) (RS : List (List ByteArray)) : Prop :=
  ∃ i, BS.length = i + 2 ∧ RS.length = i + 2 ∧ BS[i]? = some (strOfNums z.r.base) ∧ RS[i]? = some (z.r.l.map strOfNums) ∧ BS[i + 1]? = some (strOfNums bs) ∧ RS[i + 1]? = some (ls.map strOfNums) ∧
    (Aft z.r.gen z.r.base z.r.l kept z.file { s with off := false } ∨ Aft (z.r.gen + 1) bs ls ls.length (1 - z.file) { s with off := false })
def Fell (s : DS) (kept : Nat) (BS : List ByteArray) (RS : List (List ByteArray)) : Prop := ∃ g base l k' f, Last BS RS base l ∧ Aft g base l k' f { s with off := false } ∧ kept ≤ k'
theorem R_one {α : Type} {d : Kd α} {e : Nat} {W : World} {base g : Nat} {ok : Nat → Prop} {v : Value} {x : α} (hsz : d.sz = 1) (h : W.heap[g]? = some (.cells #[v] e (0, 0))) (hb : base ≤ g) (hok : ok g) (hM : d.M W base (fun k => ok k ∧ some k ≠ (Value.slice (some ⟨g, 0, none⟩) 1 1).ownBlock) x [v]) : d.R e W base ok (.slice (some ⟨g, 0, none⟩) 1 1) [x] := by
  refine ⟨fun k hk => ?_, [v], ⟨by rw [hsz]; rfl, .inr ⟨g, 1, #[v], rfl, hb, h, Nat.le_refl _, by decide, by rw [hsz]; rfl, by rw [hsz]; rfl⟩⟩, by rw [hsz]; rfl, fun j p hj => ?_⟩
  · have : g = k := by simpa [Value.ownBlock] using hk
    exact this ▸ hok
  · match j, hj with
    | 0, hj =>
      injection hj with hj
      subst hj
      rw [hsz]; exact hM
theorem KW.start {G : Nat → Prop} {b t : Nat} {W0 W : World} {z : TS} {s : DS} (hD : IsD G W b s) (hT : IsT G W t b z) (hw : Below W0.heap.size W0 W) (hg : ∀ k, G k → W0.heap.size ≤ k) :
    ∃ G' SB SR, KW G' SB SR b t W.heap.size W0 ((W.alloc (.cells #[.string ⟨#[]⟩] 9)).alloc (.cells #[.slice none 0 0] 81)) z s (.slice (some ⟨W.heap.size, 0, none⟩) 1 1) (.slice (some ⟨W.heap.size + 1, 0, none⟩) 1 1) [⟨#[]⟩] [[]] := by
  have hb1 := below_alloc (Below.refl W.heap.size W) (.cells #[.string ⟨#[]⟩] 9)
  have hb2 := below_alloc hb1 (.cells #[.slice none 0 0] 81)
  have hn1 := blk_new W (.cells #[.string ⟨#[]⟩] 9)
  have hs1 : (W.alloc (.cells #[.string ⟨#[]⟩] 9)).heap.size = W.heap.size + 1 := by simp
  have hn2 := blk_new (W.alloc (.cells #[.string ⟨#[]⟩] 9)) (.cells #[.slice none 0 0] 81)
  rw [hs1] at hn2
  have hn3 := blk_below hn1 (below_alloc (Below.refl _ _) (.cells #[.slice none 0 0] 81))
  have hs2 : ((W.alloc (.cells #[.string ⟨#[]⟩] 9)).alloc (.cells #[.slice none 0 0] 81)).heap.size = W.heap.size + 2 := by simp
  generalize (W.alloc (.cells #[.string ⟨#[]⟩] 9)).alloc (.cells #[.slice none 0 0] 81) = W2 at *
  have hws : Ws (fun _ => False) W W2 := Ws.of_below hb2
  refine ⟨More G W W2, (fun k => k = W.heap.size), (fun k => k = W.heap.size + 1), IsD.wsMore hD hws (fun _ h => h.elim) (fun h => h), IsT.wsMore hT hws (fun _ h => h.elim) (fun h => h), below_step hw hb2, fun k hk => hk.elim (hg k) (fun e => Nat.le_trans hw.size e.1), ⟨hD.ltg, hT.lt⟩, ?_, ?_, fun k e1 e2 => by omega, ?_, by omega⟩
  · exact R_one rfl hn3 (Nat.le_refl _) rfl rfl
  · exact R_one rfl hn2 (Nat.le_succ _) rfl ⟨_, rfl, Kd.R_nil _ _ _ _ _⟩
  · rintro k (e | e)
    · exact ⟨.inr (by omega), by omega⟩
    · exact ⟨.inr (by omega), by omega⟩
theorem begun_kp : Kp bx bs0 0 := by
  have e0 : (fl bs0 0).seen = [headB 1 (0 : Nat) []].flatMap sealP := by kernel_rfl
  have e1 : (fl bs0 0).lasts = [headB 1 (0 : Nat) []].flatMap sealP := by kernel_rfl
  have er : ∀ j, 1 ≤ j → j < 8 → (fl bs0 j).seen = [] ∧ (fl bs0 j).lasts = [] := by
    intro j h1 h2
    rcases below8 h2 with rfl | rfl | rfl | rfl | rfl | rfl | rfl | rfl
    · omega
    all_goals exact ⟨by kernel_rfl, by kernel_rfl⟩
  have hx : bx = ⟨⟨1, [], []⟩, 0, 0⟩ := by kernel_rfl
  rw [hx]
  refine ⟨rfl, rfl, by kernel_rfl, by decide, by decide, by decide, by decide, ⟨0, ⟨by decide, by decide, (fun x hx => by cases hx), (fun d hd => by cases hd), by decide, by decide⟩, Nat.le_refl _, e0, e1, by kernel_rfl⟩, ?_, fun j h1 h2 => er j (by omega) h2⟩
  obtain ⟨h1, h2⟩ := er 1 (by decide) (by decide)
  refine ⟨fun m => ?_, ?_⟩
  · show (readT ((fl bs0 1).seen.take m)).1.gen < 1
    rw [h1, List.take_nil, readT_nil]; decide
  · show (readT (fl bs0 1).lasts).1.gen < 1
    rw [h2, readT_nil]; decide
end Go.Proofs.Ytehjbhnlbjbhfaa.Tp
-- TkE
namespace Go.Proofs.Ytehjbhnlbjbhfaa.Tp
open Go Go.RowKit Go.Proofs.YtehjbhnlbjbhfaaW.PrintWords Go.Proofs.YtehjbhnlbjbhfaaW.PrintLast Go.Proofs.YtehjbhnlbjbhfaaW.PrintMore Go.Proofs.Ytehjbhnlbjbhfaa.Wire Go.Proofs.Ytehjbhnlbjbhfaa.Wk Go.Proofs.Ytehjbhnlbjbhfaa.Dk
open Go.Proofs.Ytehjbhnlbjbhfaa.PTapePlays Go.Proofs.Ytehjbhnlbjbhfaa.Rt
set_option linter.unusedVariables false
set_option linter.unusedSimpArgs false
theorem str_beq {a b : ByteArray} (h : a = b) : (a == b) = true := by
  subst h
  cases a with
  | mk d => exact beq_self_eq_true d
theorem str_bne {a b : ByteArray} (h : a ≠ b) : (a == b) = false := by
  cases a with
  | mk d =>
    cases b with
    | mk e =>
      show (d == e) = false
      cases hq : (d == e) with
      | false => rfl
      | true => exact absurd (congrArg ByteArray.mk (eq_of_beq hq)) h
theorem R_str_at {W : World} {base : Nat} {ok : Nat → Prop} {A : Option Addr} {n c : Nat} {BS : List ByteArray} (h : Kd.R Kd.string 9 W base ok (.slice A n c) BS) (i : Nat) (x : ByteArray) (hx : BS[i]? = some x) : ∃ g, A = some ⟨g, 0, none⟩ ∧ W.cell? ⟨g, i, none⟩ = some (.string x) := by
  obtain ⟨hi, hxi⟩ := List.getElem?_eq_some_iff.1 hx
  obtain ⟨hn, _, hC⟩ := Kd.R_reads' h
  obtain ⟨ad, rfl, hc⟩ := Kd.at_string hC (i : Int) (by omega) (by omega)
  obtain ⟨h0, inner, hown, hr⟩ := h
  rcases hown.2 with ⟨e, _⟩ | ⟨g, cap, cur, hv, _⟩
  · cases e
  · injection hv with h1 h2 h3
    injection h1 with h1
    subst h1
    refine ⟨g, rfl, ?_⟩
    rw [add_at, Int.toNat_natCast, Nat.zero_add] at hc
    rw [hc]
    unfold rdOf
    rw [Int.toNat_natCast, List.getD_eq_getElem?_getD, hx]; rfl
theorem strs_is (A0 : Option Addr) (c0 : Nat) (A1 : Option Addr) (c1 n0 n1 : Nat) (l m : List ByteArray) (r : Bool) (h0 : n0 = l.length) (h1 : n1 = m.length) (hr : eqSt l m = r) (w : World) (hr0 : Kd.C Kd.string w A0 l.length l) (hc0 : l.length ≤ c0) (hr1 : Kd.C Kd.string w A1 m.length m) (hc1 : m.length ≤ c1) :
    Calls Try.prog 39 #[.slice A0 n0 c0, .slice A1 n1 c1] w fun e w' => e = .returned (.bool r) ∧ Below w.heap.size w w' := by
  subst h0 h1 hr
  refine (strs_calls A0 c0 l A1 c1 m w hr0 hc0 hr1 hc1).mono ?_
  rintro e w' ⟨rfl, ⟨n8, rfl⟩⟩
  exact ⟨rfl, pw_below_drewN (Below.refl _ _) _⟩
theorem Fell.opens {s : DS} {kept : Nat} {BS : List ByteArray} {RS : List (List ByteArray)} (h : Fell s kept BS RS) : ∃ i x s' R j, BS.length = i + 1 ∧ RS.length = i + 1 ∧ BS[i]? = some (strOfNums x.r.base) ∧ RS[i]? = some R ∧ x.r.l.map strOfNums = R.take j ∧ kept ≤ j ∧ j ≤ R.length ∧ openT { s with off := false } = (some x, s', 0) := by
  obtain ⟨g, base, l, k', f, ⟨i, h1, h2, h3, h4⟩, ha, hk⟩ := h
  obtain ⟨j, x, s', j1, j2, ho, hb, hl⟩ := ha.opens
  exact ⟨i, x, s', l.map strOfNums, j, h1, h2, by rw [hb]; exact h3, h4, by rw [hl, List.map_take], by omega, by rw [List.length_map]; exact j2, ho⟩
theorem Struck.opens {z : TS} {s : DS} {bs : List Int} {ls : List (List Int)} {kept : Nat} {BS : List ByteArray} {RS : List (List ByteArray)} (h : Struck z s bs ls kept BS RS) : ∃ i x s' B0 R0 B1 R1, BS.length = i + 2 ∧ RS.length = i + 2 ∧ BS[i]? = some B0 ∧ RS[i]? = some R0 ∧ BS[i + 1]? = some B1 ∧ RS[i + 1]? = some R1 ∧ openT { s with off := false } = (some x, s', 0) ∧
    ((strOfNums x.r.base = B1 ∧ x.r.l.map strOfNums = R1) ∨ (strOfNums x.r.base = B0 ∧ ∃ j, kept ≤ j ∧ j ≤ R0.length ∧ x.r.l.map strOfNums = R0.take j)) := by
  obtain ⟨i, h1, h2, h3, h4, h5, h6, ha⟩ := h
  rcases ha with ha | ha
  · obtain ⟨j, x, s', j1, j2, ho, hb, hl⟩ := ha.opens
    exact ⟨i, x, s', _, _, _, _, h1, h2, h3, h4, h5, h6, ho, .inr ⟨by rw [hb], j, j1, by rw [List.length_map]; exact j2, by rw [hl, List.map_take]⟩⟩
  · obtain ⟨j, x, s', j1, j2, ho, hb, hl⟩ := ha.opens
    obtain rfl : j = ls.length := by omega
    exact ⟨i, x, s', _, _, _, _, h1, h2, h3, h4, h5, h6, ho, .inl ⟨by rw [hb], by rw [hl, List.take_length]⟩⟩
theorem Last.put {BS : List ByteArray} {RS : List (List ByteArray)} {base : List Int} {l : List (List Int)} {i : Nat} (d : List Int) (h1 : BS.length = i + 1) (h2 : RS.length = i + 1) (h3 : BS[i]? = some (strOfNums base)) : Last BS (RS.set i (l.map strOfNums ++ [strOfNums d])) base (l ++ [d]) :=
  ⟨i, h1, by rw [List.length_set]; exact h2, h3, by rw [List.getElem?_set, if_pos rfl, if_pos (by omega), List.map_append]; rfl⟩
theorem KW.rows {G SB SR : Nat → Prop} {b t M : Nat} {W0 W W' : World} {z : TS} {s : DS} {vB vR : Value} {BS : List ByteArray} {RS : List (List ByteArray)} (h : KW G SB SR b t M W0 W z s vB vR BS RS) (hw : Ws (fun k => k = b) W W') : Kd.R Kd.string 9 W' M SB vB BS ∧ KdS.R 81 W' M SR vR RS ∧ Below W0.heap.size W0 W' :=
  ⟨Kd.R_step h.bs (fun k hk hlt => hw.block k hlt (fun e => by have := (h.sg k (.inl hk)).2; have := h.bt; omega)), Kd.R_step h.rs (fun k hk hlt => hw.block k hlt (fun e => by have := (h.sg k (.inr hk)).2; have := h.bt; omega)), hw.below h.w (fun k hk => hk ▸ h.gw b h.dd.gg)⟩
end Go.Proofs.Ytehjbhnlbjbhfaa.Tp
-- RtG
namespace Go.Proofs.Ytehjbhnlbjbhfaa.Rt
open Go Go.RowKit Go.Proofs.YtehjbhnlbjbhfaaW.PrintWords Go.Proofs.YtehjbhnlbjbhfaaW.PrintLast Go.Proofs.YtehjbhnlbjbhfaaW.PrintMore Go.Proofs.Ytehjbhnlbjbhfaa.Wire Go.Proofs.Ytehjbhnlbjbhfaa.Wk Go.Proofs.Ytehjbhnlbjbhfaa.Dk Go.Proofs.Ytehjbhnlbjbhfaa.Tp Go.Proofs.Ytehjbhnlbjbhfaa.Rd
set_option linter.unusedVariables false
theorem saveP_room (t : TS) (s : DS) (base : List Int) (l : List (List Int)) : (saveP t s base l).2.1.room = s.room := by
  unfold saveP
  split
  · rfl
  · split
    · rfl
    · split
      · rfl
      · split
        · rfl
        · unfold saveW
          simp only
          split
          · exact clear_room _ _
          · split
            · exact (append_room _ _ _).trans (clear_room _ _)
            · split
              · exact (sync_room _ _).trans ((append_room _ _ _).trans (clear_room _ _))
              · exact (sync_room _ _).trans ((append_room _ _ _).trans (clear_room _ _))
theorem putP_room (t : TS) (s : DS) (d : List Int) : (putP t s d).2.1.room = s.room := by
  unfold putP
  split
  · rfl
  · simp only
    split <;> exact append_room _ _ _
theorem syncT_room (t : TS) (s : DS) : (syncT t s).2.1.room = s.room := by
  unfold syncT
  simp only
  split <;> exact sync_room _ _
end Go.Proofs.Ytehjbhnlbjbhfaa.Rt
-- RtH
namespace Go.Proofs.Ytehjbhnlbjbhfaa.Rt
open Go Go.RowKit Go.Proofs.YtehjbhnlbjbhfaaW.PrintWords Go.Proofs.YtehjbhnlbjbhfaaW.PrintLast Go.Proofs.YtehjbhnlbjbhfaaW.PrintMore Go.Proofs.Ytehjbhnlbjbhfaa.Wire Go.Proofs.Ytehjbhnlbjbhfaa.Wk Go.Proofs.Ytehjbhnlbjbhfaa.Dk Go.Proofs.Ytehjbhnlbjbhfaa.Tp Go.Proofs.Ytehjbhnlbjbhfaa.Rd
open Go.Proofs.Ytehjbhnlbjbhfaa.PTapePlays
set_option linter.unusedVariables false
set_option linter.unusedSimpArgs false
theorem texts_l0 (ls : List (List Int)) (hl : ls.length < 1000000000) : ∀ (d j : Nat), j + d = ls.length → towlinelaw06_texts.l0 (d + 1) ((ls.take j).map strOfNums) ls (ls.length : Int) (j : Int) = some (ls.map strOfNums) := by
  intro d
  induction d with
  | zero =>
    intro j hj
    obtain rfl : j = ls.length := by omega
    simp only [towlinelaw06_texts.l0]
    rw [if_neg (by omega), List.take_length]
  | succ d ih =>
    intro j hj
    have hlt : j < ls.length := by omega
    rw [towlinelaw06_texts.l0, if_pos (by omega), if_pos (by omega), if_pos (by omega), if_pos (by rw [List.length_map, List.length_take]; omega), show wrap64 ((j : Int) + 1) = ((j + 1 : Nat) : Int) by unfold wrap64; omega]
    have : (ls.take j).map strOfNums ++ [strOfNums (rd_L1 ls (j : Int))] = (ls.take (j + 1)).map strOfNums := by
      rw [List.take_add_one, List.map_append, List.getElem?_eq_getElem hlt]
      unfold rd_L1
      rw [Int.toNat_natCast, List.getD_eq_getElem?_getD, List.getElem?_eq_getElem hlt]
      rfl
    rw [this]
    exact ih (j + 1) (by omega)
theorem texts_calls (A0 : Option Addr) (c0 : Nat) (ls : List (List Int)) (w : World) (hr0 : Kd.C KdB w A0 ls.length ls) (hc0 : ls.length ≤ c0) (hl : ls.length < 1000000000) :
    Calls Try.prog 43 #[.slice A0 ls.length c0] w fun e w' => ∃ v, e = .returned v ∧ Kd.R Kd.string 9 w' w.heap.size (fun _ => True) v (ls.map strOfNums) ∧ Below w.heap.size w w' :=
  towlinelaw06_texts.calls (ls.length + 1) A0 c0 ls (ls.map strOfNums) w hr0 hc0 (texts_l0 ls hl ls.length 0 (by omega))
end Go.Proofs.Ytehjbhnlbjbhfaa.Rt
