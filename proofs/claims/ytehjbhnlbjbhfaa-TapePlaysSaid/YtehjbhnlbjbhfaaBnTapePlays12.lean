/- Texts that the row of LawTapePlays rests on, part 12 of 15: contracts of the functions, their walks, plain laws. -/
import Derived.Test.YtehjbhnlbjbhfaaBnTapePlays11
import Derived.Lib.SmallJoins
import Derived.Laws.IdiomStrings
-- TpQ
namespace Go.Proofs.Ytehjbhnlbjbhfaa.Tp
open Go Go.RowKit Go.Proofs.YtehjbhnlbjbhfaaW.PrintWords Go.Proofs.YtehjbhnlbjbhfaaW.PrintLast Go.Proofs.YtehjbhnlbjbhfaaW.PrintMore Go.Proofs.Ytehjbhnlbjbhfaa.Wire Go.Proofs.Ytehjbhnlbjbhfaa.Wk Go.Proofs.Ytehjbhnlbjbhfaa.Dk
open Go.Proofs.Ytehjbhnlbjbhfaa.PTapePlays
set_option linter.unusedVariables false
set_option linter.unusedSimpArgs false
theorem Ws.al {P : Nat → Prop} {w w1 : World} {o : Obj} (h : Ws P (w.alloc o) w1) : Ws P w w1 := (Ws.of_below (below_alloc (Below.refl _ _) o)).trans (h.mono (fun _ _ hp => hp))
theorem bs_one (c : Int) (h : 0 ≤ c ∧ c < 256) : Bs [c] := fun x hx => by simp at hx; subst hx; exact h
theorem one_row {G : Nat → Prop} (W : World) (c : Int) (hG : ∀ b, G b → b < W.heap.size) : Rw G .u8 (W.alloc (.cells #[.int .u8 c] 5 (1, 2))) (.slice (some ⟨W.heap.size, 0, none⟩) 1 1) [c] := lit_row .u8 W [c] 5 (1, 2) hG (by simp)
theorem one_string (W : World) (s : ByteArray) : Kd.C Kd.string (W.alloc (.cells #[.string s] 9)) (some ⟨W.heap.size, 0, none⟩) 1 [s] := by
  refine ⟨rfl, by decide, fun _ => ⟨⟨W.heap.size, 0, none⟩, rfl, fun j p hj => ?_⟩⟩
  have : j = 0 := by have := (List.getElem?_eq_some_iff.1 hj).1; simp at this; omega
  subst this
  simp at hj
  subst hj
  refine ⟨[.string s], rfl, rfl, fun q u hq => ?_⟩
  have : q = 0 := by have := (List.getElem?_eq_some_iff.1 hq).1; simp at this; omega
  subst this
  simp at hq
  subst hq
  rw [add_plain]
  simp
theorem abs5 : BsD as5 := by
  have h : (as5.fs.all fun f => (f.seen.all fun x => decide (0 ≤ x ∧ x < 256)) && f.lasts.all fun x => decide (0 ≤ x ∧ x < 256)) = true := by kernel_rfl
  intro f hf
  have := List.all_eq_true.1 h f hf
  rw [Bool.and_eq_true, List.all_eq_true, List.all_eq_true] at this
  exact ⟨fun x hx => of_decide_eq_true (this.1 x hx), fun x hx => of_decide_eq_true (this.2 x hx)⟩
set_option maxHeartbeats 8000000 in
set_option maxRecDepth 100000 in
theorem awake_calls (w : World) : Calls Try.prog 31 #[] w fun e w' => e = .returned (.bool true) ∧ Below w.heap.size w w' := by
  go_enter Try.func31, Try.ntmps31
  go_wp2_with (fail)
  refine (begun_calls _).mono ?_
  rintro e w1 ⟨b, t, rfl, hb, ht, hD, hT, hB⟩
  obtain ⟨G, hG⟩ : ∃ G : Nat → Prop, (fun k => k = b ∨ k = t) = G := ⟨_, rfl⟩
  rw [hG] at hD hT
  have HGS := Aside0.mk (show ∀ k, TG t b k → w.heap.size ≤ k by rintro k (rfl | rfl); exact ht; exact hb)
  have HD := Aside0.mk hD
  have HT := Aside0.mk hT
  have HB := Aside0.mk hB
  clear hb ht hD hT hB
  have hcv1 : (convert 32 32 (.slice (some ⟨w1.heap.size, 0, none⟩) 1 1)).run Try.prog (w1.alloc (.cells #[.int .u8 97] 5)) = .ok (.slice (some ⟨w1.heap.size, 0, none⟩) 1 1) (w1.alloc (.cells #[.int .u8 97] 5 (1, 2))) := Go.Joins.run_convert_bytes_const_at w1 32 5 #[.int .u8 97] 1 1 w1.heap.size rfl Try.underlying32 Try.underlying5
  go_wp2_with (fail)
  refine (TPut_calls G t b bx bs0 _ [97] _ (HT.out.al _) (HD.out.al _) tok0 (one_row w1 97 HD.out.lt) (bs_one 97 (by decide)) (by decide) (by decide)).mono ?_
  rw [ta1]
  rintro e w2 ⟨rfl, hT2, hD2, hW2⟩
  have HT2 := Aside0.mk hT2
  have HD2 := Aside0.mk hD2
  have HB2 := Aside0.mk (hW2.al.below HB.out HGS.out)
  clear hT2 hD2 hW2 HT HD HB
  go_wp2_with (fail)
  refine (TSync_calls G t b ax1 as1 _ HT2.out HD2.out tok1).mono ?_
  rw [ta2]
  rintro e w3 ⟨rfl, hT3, hD3, hW3⟩
  have HT3 := Aside0.mk hT3
  have HD3 := Aside0.mk hD3
  have HB3 := Aside0.mk (hW3.below HB2.out HGS.out)
  clear hT3 hD3 hW3 HT2 HD2 HB2
  have hcv3 : (convert 32 32 (.slice (some ⟨w3.heap.size, 0, none⟩) 1 1)).run Try.prog (w3.alloc (.cells #[.int .u8 98] 5)) = .ok (.slice (some ⟨w3.heap.size, 0, none⟩) 1 1) (w3.alloc (.cells #[.int .u8 98] 5 (1, 2))) := Go.Joins.run_convert_bytes_const_at w3 32 5 #[.int .u8 98] 1 1 w3.heap.size rfl Try.underlying32 Try.underlying5
  go_wp2_with (fail)
  refine (TPut_calls G t b ax2 as2 _ [98] _ (HT3.out.al _) (HD3.out.al _) tok2 (one_row w3 98 HD3.out.lt) (bs_one 98 (by decide)) (by decide) (by rw [tl3.2]; decide)).mono ?_
  rw [ta3]
  rintro e w4 ⟨rfl, hT4, hD4, hW4⟩
  have HT4 := Aside0.mk hT4
  have HD4 := Aside0.mk hD4
  have HB4 := Aside0.mk (hW4.al.below HB3.out HGS.out)
  clear hT4 hD4 hW4 HT3 HD3 HB3
  go_wp2_with (fail)
  refine (Kept_calls G t b ax3 _ HT4.out).mono ?_
  rw [tk3]
  rintro e w5 ⟨rfl, ⟨n5, rfl⟩⟩
  have HK5 := Aside0.mk (HD4.out.drN n5)
  have HB5 := Aside0.mk (pw_below_drewN HB4.out n5)
  clear HT4 HD4 HB4
  go_wp2_with (fail)
  refine (Crash_calls G b as3 (.slice none 0 0) [] _ HK5.out tok3 (Rw.nil _ _ _) (fun x hx => by cases hx)).mono ?_
  rw [ta4]
  rintro e w6 ⟨rfl, hD6, hW6⟩
  have HD6 := Aside0.mk hD6
  have HB6 := Aside0.mk ((Ws.of_wr (P := TG t b) hW6 (.inr rfl)).below HB5.out HGS.out)
  clear hD6 hW6 HK5 HB5
  go_wp2_with (fail)
  refine (Start_calls G b as4 _ HD6.out).mono ?_
  rw [ta5]
  rintro e w7 ⟨rfl, hD7, hW7⟩
  have HD7 := Aside0.mk hD7
  have HB7 := Aside0.mk ((Ws.of_wr (P := TG t b) hW7 (.inr rfl)).below HB6.out HGS.out)
  clear hD7 hW7 HD6 HB6
  go_wp2_with (fail)
  refine (Open_calls G b as5 _ HD7.out tok5 abs5).mono ?_
  rw [ta6]
  rintro e w8 ⟨p, rfl, hD8, hW8, hp, hT8⟩
  subst hp
  obtain ⟨t2, ht2⟩ : ∃ t2, w7.heap.size = t2 := ⟨_, rfl⟩
  rw [ht2] at hD8 hT8
  have HG2 := Aside0.mk (show ∀ k, TG t2 b k → w.heap.size ≤ k by
    rintro k (rfl | rfl)
    · rw [← ht2]; exact HB7.out.size
    · exact HGS.out _ (.inr rfl))
  have HD8 := Aside0.mk hD8
  have HT8 := Aside0.mk hT8
  have HB8 := Aside0.mk ((hW8.mono (P' := TG t2 b) (fun k _ e => .inr e)).below HB7.out HG2.out)
  clear hD8 hT8 hW8 HD7 HB7
  go_wp2_with (fail)
  refine (records_calls _ t2 b ax6 _ HT8.out (by rw [tl6]; decide) (by rw [tl6]; decide)).mono ?_
  rintro e w9 ⟨v, rfl, hR9, hB9⟩
  obtain ⟨A9, c9, rfl⟩ := Kd.R_slice hR9
  have HR9 := Aside0.mk (show Kd.C Kd.string w9 A9 1 [strOfNums [97]] ∧ 1 ≤ c9 by
    have h1 := Kd.R_reads' hR9
    rw [tl6] at h1
    exact ⟨h1.2.2, h1.2.1⟩)
  have HLN := Aside0.mk (show (ax6.r.l.map strOfNums).length = 1 by rw [tl6]; rfl)
  rw [HLN.out]
  have HT9 := Aside0.mk (HT8.out.below hB9)
  have HD9 := Aside0.mk (HD8.out.below hB9)
  have HB9 := Aside0.mk (below_step HB8.out hB9)
  clear hR9 hB9 HT8 HD8 HB8
  go_wp2_with (fail)
  refine (slices_Equal_string_string.calls 10 A9 c9 [strOfNums [97]] (some ⟨w9.heap.size, 0, none⟩) 1 [⟨#[97]⟩] true _ (Kd.C_alloc HR9.out.1 _) HR9.out.2 (one_string w9 ⟨#[97]⟩) (by decide) (by decide +kernel)).mono ?_
  rintro e w10 ⟨rfl, ⟨n10, rfl⟩⟩
  have hs10 : ((w9.alloc (.cells #[.string ⟨#[97]⟩] 9)).drewN n10).heap.size = w9.heap.size + 1 := by simp
  have HB10 := Aside0.mk (pw_below_drewN (below_alloc (Below.refl w9.heap.size w9) (.cells #[.string ⟨#[97]⟩] 9)) n10)
  have hcv10 : (convert 32 32 (.slice (some ⟨w9.heap.size + 1, 0, none⟩) 1 1)).run Try.prog (((w9.alloc (.cells #[.string ⟨#[97]⟩] 9)).drewN n10).alloc (.cells #[.int .u8 120] 5)) = .ok (.slice (some ⟨w9.heap.size + 1, 0, none⟩) 1 1) (((w9.alloc (.cells #[.string ⟨#[97]⟩] 9)).drewN n10).alloc (.cells #[.int .u8 120] 5 (1, 2))) := Go.Joins.run_convert_bytes_const_at _ 32 5 #[.int .u8 120] 1 1 (w9.heap.size + 1) hs10.symm Try.underlying32 Try.underlying5
  have HROW := Aside0.mk (one_row ((w9.alloc (.cells #[.string ⟨#[97]⟩] 9)).drewN n10) 120 (HD9.out.below HB10.out).lt)
  rw [hs10] at HROW
  have HBA := Aside0.mk (below_alloc HB10.out (.cells #[.int .u8 120] 5 (1, 2)))
  go_wp2_with (fail)
  refine (Save_calls _ t2 b ax6 as6 _ (.slice none 0 0) [120] [] _ (HT9.out.below HBA.out) (HD9.out.below HBA.out) tok6 HROW.out (Rs.nil _ _) ⟨tg6.1, tg6.2, bs_one 120 (by decide), (fun d hd => absurd hd (by simp)), by decide, by decide, by decide⟩).mono ?_
  rw [ta7]
  rintro e w11 ⟨rfl, hT11, hD11, hW11⟩
  have HT11 := Aside0.mk hT11
  have HD11 := Aside0.mk hD11
  have HB11 := Aside0.mk (hW11.below (below_step HB9.out HBA.out) HG2.out)
  clear hT11 hD11 hW11
  go_wp2_with (fail)
  refine (Base_calls _ t2 b ax7 _ HT11.out (by rw [tb7.1]; decide)).mono ?_
  rw [tb7.1]
  rintro e w12 ⟨v, rfl, hR12, hB12⟩
  obtain ⟨A12, c12, rfl⟩ := Kd.R_slice hR12
  have hcv12 := Kd.C_string (P := Try.prog) (A := A12) (c := c12) Try.underlying32 Try.underlying5 Try.underlying9 (Kd.R_reads' hR12).2.2
  rw [show ([120] : List Int).length = 1 from rfl] at hcv12 ⊢
  have HT12 := Aside0.mk (HT11.out.below hB12)
  have HB12 := Aside0.mk (below_step HB11.out hB12)
  clear hR12 hB12
  have hx12 : (strOfNums [120] == (⟨#[120]⟩ : ByteArray)) = true := by decide +kernel
  have hy12 : decide (strOfNums [120] = (⟨#[120]⟩ : ByteArray)) = true := by decide +kernel
  have hz12 : (strOfNums [120]).toList = [120] := by decide +kernel
  have HLE := Aside0.mk (show Calls Try.prog 27 #[.pointer (some ⟨t2, 0, none⟩)] w12 fun e w' => e = .returned (.int .i64 0) ∧ Drawn0 w12 w' by
    have := Len_calls _ t2 b ax7 _ HT12.out
    rw [tb7.2] at this
    exact this)
  go_wp2_with (fail)
  refine HLE.out.mono ?_
  rintro e w13 ⟨rfl, ⟨n13, rfl⟩⟩
  go_wp2
  go_ret
  exact ⟨rfl, pw_below_drewN HB12.out n13⟩
end Go.Proofs.Ytehjbhnlbjbhfaa.Tp
-- TpV
namespace Go.Proofs.Ytehjbhnlbjbhfaa.Tp
open Go Go.RowKit Go.Proofs.YtehjbhnlbjbhfaaW.PrintWords Go.Proofs.YtehjbhnlbjbhfaaW.PrintLast Go.Proofs.YtehjbhnlbjbhfaaW.PrintMore Go.Proofs.Ytehjbhnlbjbhfaa.Wire Go.Proofs.Ytehjbhnlbjbhfaa.Wk Go.Proofs.Ytehjbhnlbjbhfaa.Dk
open Go.Proofs.Ytehjbhnlbjbhfaa.PTapePlays
set_option linter.unusedVariables false
set_option linter.unusedSimpArgs false
theorem IsD.wsmore {G P : Nat → Prop} {g b : Nat} {W W' : World} {s : DS} (h : IsD G W g s) (hw : Ws P W W') (hg : ∀ k, P k → G k) (hne : ¬ P g) (hb : W.heap.size ≤ b) (hb' : b < W'.heap.size) : IsD (fun k => G k ∨ k = b) W' g s := by
  have h' := IsD.ws h hw hg hne
  obtain ⟨h1, h2, d, hA, hR⟩ := h
  have hs : ∀ k, k < W.heap.size → (G k ∨ k = b) → G k := fun k hk hG => hG.elim id (fun e => by omega)
  have hg' : ∀ k, P k → (G k ∨ k = b) := fun k hk => .inl (hg k hk)
  exact ⟨fun k hk => hk.elim (h'.lt k) (fun e => e ▸ hb'), .inl h2, d, hA.same (hw.block g (h1 g h2) hne), hR.1, hR.2.1, Rw.ws (hR.2.2.1.grow hs) hw hg', hR.2.2.2.1, hR.2.2.2.2.1, hR.2.2.2.2.2.1, fun i hi => ⟨Rw.ws ((hR.2.2.2.2.2.2 i hi).1.grow hs) hw hg', Rw.ws ((hR.2.2.2.2.2.2 i hi).2.1.grow hs) hw hg', (hR.2.2.2.2.2.2 i hi).2.2⟩⟩
theorem IsT.wsmore {G P : Nat → Prop} {W W' : World} {t g b : Nat} {x : TS} (h : IsT G W t g x) (hw : Ws P W W') (hg : ∀ k, P k → G k) (hne : ¬ P t) (hb : W.heap.size ≤ b) : IsT (fun k => G k ∨ k = b) W' t g x :=
  (h.grow (G' := fun k => G k ∨ k = b) (.inl h.gt) (fun k hk hG => hG.elim id (fun e => by omega))).ws hw (fun k hk => .inl (hg k hk)) hne
theorem saveP_bsd {s : DS} (h : BsD s) (t : TS) {base : List Int} {l : List (List Int)} (hb : Bs base) (hl : ∀ d ∈ l, Bs d) (hg : 0 ≤ t.r.gen) (hn : l.length ≤ 1099511627776) : BsD (saveP t s base l).2.1 := by
  unfold saveP
  split
  · exact h
  · split
    · exact h
    · split
      · exact h
      · split
        · exact h
        · rename_i c1 c2 c3 c4
          obtain ⟨q1, q2⟩ := headE_zero (Decidable.of_not_not c3)
          have hall : Bs ((headE (t.r.gen + 1) (l.length : Int) base).1 ++ l.flatMap sealP) := by
            rw [q2]
            refine (seal_bs (headB_bs (by omega) (by omega) hb (by omega)) (by omega)).app (flat_bs fun d hd => ⟨hl d hd, tooLong_not c4 d hd⟩)
          unfold saveW
          simp only
          split
          · exact h.clear _
          · split
            · exact (h.clear _).append _ hall
            · split
              · exact ((h.clear _).append _ hall).sync _
              · exact ((h.clear _).append _ hall).sync _
theorem putP_bsd {s : DS} (h : BsD s) (t : TS) {d : List Int} (hd : Bs d) : BsD (putP t s d).2.1 := by
  unfold putP
  split
  · exact h
  · simp only
    have := h.append (t.file : Int) (seal_bs hd (by omega))
    split <;> exact this
theorem syncT_bsd {s : DS} (h : BsD s) (t : TS) : BsD (syncT t s).2.1 := by
  unfold syncT
  simp only
  split <;> exact h.sync _
theorem openT_bsd {s : DS} (hok : Okk s) (h : BsD s) : BsD (openT s).2.1 := by
  have hro := pk_rok h hok.1 2 (by decide)
  rw [pk_two] at hro
  unfold openT
  split
  · exact h
  · simp only
    split
    · split
      · exact saveP_bsd h _ hro.1.bb (fun d hd => (hro.1.bl d hd).1) hro.1.gen.1 (by have := flat_len (picked s).1.r.l; have := hro.1.all; show (picked s).1.r.l.length ≤ _; omega)
      · exact saveP_bsd h _ hro.1.bb (fun d hd => (hro.1.bl d hd).1) hro.1.gen.1 (by have := flat_len (picked s).1.r.l; have := hro.1.all; show (picked s).1.r.l.length ≤ _; omega)
    · exact h
theorem rdT_mem {l : List TD} {i : Nat} (h : i < l.length) : rd_T79 l (i : Int) ∈ l := by
  unfold rd_T79
  rw [Int.toNat_natCast, List.getD_eq_getElem?_getD, List.getElem?_eq_getElem h]
  exact List.getElem_mem _
def eqSt (l m : List ByteArray) : Bool := decide (l.map (·.toList) = m.map (·.toList))
theorem eqSt_self (l : List ByteArray) : eqSt l l = true := by simp [eqSt]
theorem rdOf_drop (l : List ByteArray) {i : Nat} (h : i < l.length) : l.drop i = rdOf ByteArray.empty l (i : Int) :: l.drop (i + 1) := by
  unfold rdOf
  rw [List.drop_eq_getElem_cons h, Int.toNat_natCast, List.getD_eq_getElem?_getD, List.getElem?_eq_getElem h]; rfl
theorem strs_l0 (l m : List ByteArray) (hn : l.length = m.length) (hm : l.length ≤ 9223372036854775807) : ∀ (d i : Nat), i + d = l.length → slices_Equal_string_string.l0 (d + 1) l m (l.length : Int) (i : Int) = some (eqSt (l.drop i) (m.drop i)) := by
  intro d
  induction d with
  | zero =>
    intro i hi
    simp only [slices_Equal_string_string.l0]
    rw [if_neg (by omega), List.drop_eq_nil_of_le (by omega), List.drop_eq_nil_of_le (by omega)]
    rfl
  | succ d ih =>
    intro i hi
    rw [slices_Equal_string_string.l0, if_pos (by omega), if_pos (by omega), if_pos (by omega), if_pos (by omega), rdOf_drop l (by omega), rdOf_drop m (by omega)]
    unfold eqSt
    rw [List.map_cons, List.map_cons]
    by_cases c : (rdOf ByteArray.empty l (i : Int)).toList = (rdOf ByteArray.empty m (i : Int)).toList
    · rw [if_pos c, show wrap64 ((i : Int) + 1) = ((i + 1 : Nat) : Int) by unfold wrap64; omega, ih (i + 1) (by omega), c]
      unfold eqSt
      simp
    · rw [if_neg c]
      simp [c]
theorem strs_eq (l m : List ByteArray) (hm : l.length ≤ 9223372036854775807) : ∃ k, slices_Equal_string_string.f k l m = some (eqSt l m) := by
  unfold slices_Equal_string_string.f
  by_cases c : l.length = m.length
  · refine ⟨l.length + 1, ?_⟩
    rw [if_pos (by omega)]
    have := strs_l0 l m c hm l.length 0 (Nat.zero_add _)
    simpa using this
  · refine ⟨0, ?_⟩
    rw [if_neg (by omega)]
    have : ¬ l.map (·.toList) = m.map (·.toList) := fun e => c (by have := congrArg List.length e; simpa using this)
    simp [eqSt, this]
theorem strs_calls (A0 : Option Addr) (c0 : Nat) (l0 : List ByteArray) (A1 : Option Addr) (c1 : Nat) (l1 : List ByteArray) (w : World) (hr0 : Kd.C Kd.string w A0 l0.length l0) (hc0 : l0.length ≤ c0) (hr1 : Kd.C Kd.string w A1 l1.length l1) (hc1 : l1.length ≤ c1) :
    Calls Try.prog 39 #[.slice A0 l0.length c0, .slice A1 l1.length c1] w fun e w' => e = .returned (.bool (eqSt l0 l1)) ∧ Drawn0 w w' := by
  obtain ⟨k, hk⟩ := strs_eq l0 l1 (Kd.C_max hr0)
  exact slices_Equal_string_string.calls k A0 c0 l0 A1 c1 l1 _ w hr0 hc0 hr1 hc1 hk
structure Bnd (x : TS) (n : Nat) : Prop where
  base : x.r.base.length ≤ 8176
  many : x.r.l.length ≤ n
  l : ∀ d ∈ x.r.l, d.length ≤ 8192
theorem Bnd.put {x : TS} {n : Nat} (h : Bnd x n) (s : DS) (d : List Int) : Bnd (putP x s d).1 (n + 1) := by
  have h' : Bnd x (n + 1) := ⟨h.base, by have := h.many; omega, h.l⟩
  unfold putP
  split
  · exact h'
  · rename_i c
    simp only
    split
    · exact h'
    · refine ⟨h.base, by show (x.r.l ++ [d]).length ≤ _; have := h.many; rw [List.length_append]; simp; omega, fun y hy => ?_⟩
      rcases List.mem_append.1 hy with hy | hy
      · exact h.l y hy
      · rw [List.mem_singleton.1 hy]; omega
theorem saveP_reel {t : TS} {s : DS} {base : List Int} {l : List (List Int)} (h : (saveP t s base l).2.2 = 0) : (saveP t s base l).1 = ⟨⟨t.r.gen + 1, base, l⟩, 1 - t.file, l.length⟩ ∧ t.r.gen < 1099511627776 ∧ base.length ≤ 8176 ∧ ∀ d ∈ l, d.length ≤ 8192 := by
  unfold saveP at *
  split at h
  · exact absurd h (show ¬ (5 : Int) = 0 by decide)
  · split at h
    · exact absurd h (show ¬ (4 : Int) = 0 by decide)
    · split at h
      · rename_i c; exact absurd h c
      · split at h
        · exact absurd h (show ¬ (4 : Int) = 0 by decide)
        · rename_i c1 c2 c3 c4
          rw [if_neg c1, if_neg c2, if_neg c3, if_neg c4]
          unfold saveW at *
          simp only at *
          split at h
          · rename_i c; exact absurd h c
          · rename_i c5
            rw [if_neg c5]
            split at h
            · rename_i c; exact absurd h c
            · rename_i c6
              rw [if_neg c6]
              split at h
              · rename_i c; exact absurd h c
              · rename_i c7
                rw [if_neg c7]
                exact ⟨rfl, by omega, by omega, tooLong_not c4⟩
theorem openT_some {s s' : DS} {x : TS} {e : Int} (hb : BsD s) (hok : Ok s) (h : openT s = (some x, s', e)) : e = 0 ∧ Bnd x 4194304 ∧ x.file ≤ 1 ∧ x.kept = x.r.l.length ∧ x.r.gen ≤ 1099511627776 ∧ 1 ≤ x.r.gen ∧ Bs x.r.base ∧ ∀ d ∈ x.r.l, Bs d := by
  have hro := pk_rok hb hok 2 (by decide)
  rw [pk_two] at hro
  have hfi : (picked s).1.file ≤ 1 := by rcases pk_ok hb hok 2 with h | h <;> rw [pk_two] at h <;> omega
  have hll : (picked s).1.r.l.length ≤ 4194304 := by
    have := hro.1.all
    have := flat_len (picked s).1.r.l
    omega
  unfold openT at h
  split at h
  · exact absurd h (by simp)
  · simp only at h
    split at h
    · split at h
      · exact absurd h (by simp)
      · rename_i ce
        obtain ⟨q1, q2, q3, q4⟩ := saveP_reel (Decidable.of_not_not ce)
        injection h with e1 e2
        injection e1 with e1
        injection e2 with e2 e3
        rw [← e1, q1]
        exact ⟨e3.symm, ⟨hro.1.base, hll, fun d hd => (hro.1.bl d hd).2⟩, by show 1 - _ ≤ 1; omega, rfl, by show (picked s).1.r.gen + 1 ≤ _; have : (picked s).1.r.gen < _ := q2; omega, by show 1 ≤ (picked s).1.r.gen + 1; have := hro.1.gen.1; omega, hro.1.bb, fun d hd => (hro.1.bl d hd).1⟩
    · rename_i cd
      injection h with e1 e2
      injection e1 with e1
      injection e2 with e2 e3
      rw [← e1]
      have hg : (picked s).1.r.gen ≠ 0 := fun e => cd (.inl e)
      exact ⟨e3.symm, ⟨hro.1.base, hll, fun d hd => (hro.1.bl d hd).2⟩, hfi, rfl, hro.1.gen.2, by show 1 ≤ (picked s).1.r.gen; have := hro.1.gen.1; omega, hro.1.bb, fun d hd => (hro.1.bl d hd).1⟩
end Go.Proofs.Ytehjbhnlbjbhfaa.Tp
-- TpW
namespace Go.Proofs.Ytehjbhnlbjbhfaa.Tp
open Go Go.RowKit Go.Proofs.YtehjbhnlbjbhfaaW.PrintWords Go.Proofs.YtehjbhnlbjbhfaaW.PrintLast Go.Proofs.YtehjbhnlbjbhfaaW.PrintMore Go.Proofs.Ytehjbhnlbjbhfaa.Wire Go.Proofs.Ytehjbhnlbjbhfaa.Wk Go.Proofs.Ytehjbhnlbjbhfaa.Dk
open Go.Proofs.Ytehjbhnlbjbhfaa.PTapePlays
set_option linter.unusedVariables false
set_option linter.unusedSimpArgs false
def St (G : Nat → Prop) (W : World) (v : Value) (xs : List ByteArray) : Prop := Kd.V Kd.string 0 W 0 (fun b => ¬ G b) v xs
theorem St.ws {G P : Nat → Prop} {W W' : World} {v : Value} {xs : List ByteArray} (h : St G W v xs) (hw : Ws P W W') (hg : ∀ b, P b → G b) : St G W' v xs := Kd.V_step h (fun b hb hlt => hw.block b hlt (fun e => hb (hg b e)))
theorem St.below {G : Nat → Prop} {W W' : World} {v : Value} {xs : List ByteArray} (h : St G W v xs) (hw : Below W.heap.size W W') : St G W' v xs := Kd.V_below h hw
theorem St.grow {G G' : Nat → Prop} {W : World} {v : Value} {xs : List ByteArray} (h : St G W v xs) (hg : ∀ b, b < W.heap.size → G' b → G b) : St G' W v xs := Kd.V_mono (Kd.V_bound h) (fun b hb hG => hb.1 (hg b hb.2 hG))
theorem bytes_same (A : Option Addr) (c : Nat) (B : Option Addr) (d : Nat) (l : List Int) (w : World) (h1 : Kd.C (Kd.int .u8) w A l.length l) (hc : l.length ≤ c) (h2 : Kd.C (Kd.int .u8) w B l.length l) (hd : l.length ≤ d) :
    Calls Try.prog 22 #[.slice A l.length c, .slice B l.length d] w fun e w' => e = .returned (.bool true) ∧ Drawn0 w w' := PTapePlays.bytes_Equal.calls A c l B d l true w h1 hc h2 hd (by unfold PTapePlays.bytes_Equal.f; simp)
theorem St.slice {G : Nat → Prop} {W : World} {v : Value} {xs : List ByteArray} (h : St G W v xs) : ∃ A c, v = .slice A xs.length c ∧ xs.length ≤ c ∧ Kd.C Kd.string W A xs.length xs := by
  obtain ⟨A, c, rfl⟩ := Kd.V_slice h
  exact ⟨A, c, rfl, (Kd.V_reads' h).2.1, (Kd.V_reads' h).2.2⟩
theorem St.of_R {G : Nat → Prop} {e : Nat} {W W0 : World} {v : Value} {xs : List ByteArray} (h : Kd.R Kd.string e W W0.heap.size (fun _ => True) v xs) (hG : ∀ b, G b → b < W0.heap.size) : St G W v xs :=
  show Kd.V Kd.string e W 0 (fun b => ¬ G b) v xs from Kd.R_V (Kd.R_mono (Kd.R_bound h) (fun b hb hg => by have := hb.2.1; have := hG b hg; omega))
theorem flat_small {ls : List (List Int)} (h1 : 4 * ls.length ≤ 16384) (h2 : ∀ d ∈ ls, d.length ≤ 16384) : (ls.flatMap sealP).length < 900000000 := by
  have : ∀ (m : List (List Int)), (∀ d ∈ m, d.length ≤ 16384) → (m.flatMap sealP).length ≤ m.length * 16400 := by
    intro m
    induction m with
    | nil => intro _; simp
    | cons d m ih =>
      intro h
      have h3 := ih (fun x hx => h x (List.mem_cons_of_mem _ hx))
      have h4 := h d (List.mem_cons_self ..)
      have h5 := seal_len d
      have h6 := enc_len 9 d.length
      rw [List.flatMap_cons, List.length_append, List.length_cons]
      omega
  have := this ls h2
  omega
end Go.Proofs.Ytehjbhnlbjbhfaa.Tp
-- RdA
namespace Go.Proofs.Ytehjbhnlbjbhfaa.Rd
open Go Go.RowKit Go.Proofs.YtehjbhnlbjbhfaaW.PrintWords Go.Proofs.YtehjbhnlbjbhfaaW.PrintLast Go.Proofs.YtehjbhnlbjbhfaaW.PrintMore Go.Proofs.Ytehjbhnlbjbhfaa.Dk
attribute [local go_sem] max2_int min2_int max_two min_two
set_option linter.unusedVariables false
set_option linter.unusedSimpArgs false
structure XF where
  told : ByteArray
  lasts : ByteArray
  cl : Bool
structure XV where
  fs : List XF
  room : Int
  off : Bool
  fuse : Int
  kv : Value
def XF.cells (f : XF) : List Value := [.string f.told, .string f.lasts, .bool f.cl]
def XV.cells (d : XV) : List Value := d.fs.flatMap XF.cells ++ [.int .i64 d.room, .bool d.off, .int .i64 d.fuse, d.kv]
def toXF (f : Fl) : XF := ⟨strOfNums f.seen, strOfNums f.lasts, f.cl⟩
def XV.f (d : XV) (i : Nat) : XF := d.fs.getD i (toXF nf)
def AtX (W : World) (x : Nat) (d : XV) : Prop := d.fs.length = 8 ∧ W.heap[x]? = some (.cells d.cells.toArray 107 (0, 0))
def fuseP (s : DS) : Int := if s.set = true then s.left else 0
def toXV (s : DS) (kv : Value) : XV := ⟨s.fs.map toXF, s.room, s.off, fuseP s, kv⟩
theorem toXV_f {s : DS} (h : s.fs.length = 8) {i : Nat} (hi : i < 8) (kv : Value) : (toXV s kv).f i = toXF (fl s i) := by
  unfold XV.f toXV fl
  rw [List.getD_eq_getElem?_getD, List.getD_eq_getElem?_getD, List.getElem?_map, List.getElem?_eq_getElem (by omega)]; rfl
section
variable {W : World} {x : Nat} {d : XV}
theorem AtX.cell (h : AtX W x d) (i : Nat) : W.cell? ⟨x, i, none⟩ = d.cells[i]? := by rw [blk_cell h.2 i]; simp
theorem AtX.frozen (h : AtX W x d) (i : Nat) : W.frozen? ⟨x, i, none⟩ = false := blk_frozen h.2 i
theorem AtX.c24 (h : AtX W x d) : W.cell? ⟨x, 24, none⟩ = some (.int .i64 d.room) := by
  rw [h.cell 24]; obtain ⟨a0, a1, a2, a3, a4, a5, a6, a7, e⟩ := eight h.1; unfold XV.cells; rw [e]; rfl
theorem AtX.c25 (h : AtX W x d) : W.cell? ⟨x, 25, none⟩ = some (.bool d.off) := by
  rw [h.cell 25]; obtain ⟨a0, a1, a2, a3, a4, a5, a6, a7, e⟩ := eight h.1; unfold XV.cells; rw [e]; rfl
theorem AtX.c26 (h : AtX W x d) : W.cell? ⟨x, 26, none⟩ = some (.int .i64 d.fuse) := by
  rw [h.cell 26]; obtain ⟨a0, a1, a2, a3, a4, a5, a6, a7, e⟩ := eight h.1; unfold XV.cells; rw [e]; rfl
theorem AtX.c27 (h : AtX W x d) : W.cell? ⟨x, 27, none⟩ = some d.kv := by
  rw [h.cell 27]; obtain ⟨a0, a1, a2, a3, a4, a5, a6, a7, e⟩ := eight h.1; unfold XV.cells; rw [e]; rfl
theorem AtX.told (h : AtX W x d) {i : Nat} (hi : i < 8) : W.cell? ⟨x, i * 3, none⟩ = some (.string (d.f i).told) := by
  rw [h.cell]; obtain ⟨a0, a1, a2, a3, a4, a5, a6, a7, e⟩ := eight h.1; unfold XV.cells XV.f; rw [e]
  rcases below8 hi with rfl | rfl | rfl | rfl | rfl | rfl | rfl | rfl <;> rfl
theorem AtX.lasts (h : AtX W x d) {i : Nat} (hi : i < 8) : W.cell? ⟨x, i * 3 + 1, none⟩ = some (.string (d.f i).lasts) := by
  rw [h.cell]; obtain ⟨a0, a1, a2, a3, a4, a5, a6, a7, e⟩ := eight h.1; unfold XV.cells XV.f; rw [e]
  rcases below8 hi with rfl | rfl | rfl | rfl | rfl | rfl | rfl | rfl <;> rfl
theorem AtX.cl (h : AtX W x d) {i : Nat} (hi : i < 8) : W.cell? ⟨x, i * 3 + 2, none⟩ = some (.bool (d.f i).cl) := by
  rw [h.cell]; obtain ⟨a0, a1, a2, a3, a4, a5, a6, a7, e⟩ := eight h.1; unfold XV.cells XV.f; rw [e]
  rcases below8 hi with rfl | rfl | rfl | rfl | rfl | rfl | rfl | rfl <;> rfl
theorem AtX.lt (h : AtX W x d) : x < W.heap.size := blk_lt h.2
theorem AtX.same (h : AtX W x d) {W' : World} (he : W'.heap[x]? = W.heap[x]?) : AtX W' x d := ⟨h.1, he.trans h.2⟩
theorem AtX.put (h : AtX W x d) {d' : XV} (hl : d'.fs.length = 8) (i : Nat) (u : Value) (e : d.cells.toArray.setIfInBounds i u = d'.cells.toArray) : AtX (W.setCell ⟨x, i, none⟩ u) x d' := ⟨hl, e ▸ blk_set h.2 i u⟩
theorem AtX.set25 (h : AtX W x d) (b : Bool) : AtX (W.setCell ⟨x, 25, none⟩ (.bool b)) x { d with off := b } := by
  refine h.put (d' := { d with off := b }) h.1 25 _ ?_
  obtain ⟨a0, a1, a2, a3, a4, a5, a6, a7, e⟩ := eight h.1; unfold XV.cells; simp only [e]; rfl
theorem AtX.set26 (h : AtX W x d) (n : Int) : AtX (W.setCell ⟨x, 26, none⟩ (.int .i64 n)) x { d with fuse := n } := by
  refine h.put (d' := { d with fuse := n }) h.1 26 _ ?_
  obtain ⟨a0, a1, a2, a3, a4, a5, a6, a7, e⟩ := eight h.1; unfold XV.cells; simp only [e]; rfl
theorem AtX.set27 (h : AtX W x d) (v : Value) : AtX (W.setCell ⟨x, 27, none⟩ v) x { d with kv := v } := by
  refine h.put (d' := { d with kv := v }) h.1 27 _ ?_
  obtain ⟨a0, a1, a2, a3, a4, a5, a6, a7, e⟩ := eight h.1; unfold XV.cells; simp only [e]; rfl
theorem AtX.setT (h : AtX W x d) {i : Nat} (hi : i < 8) (b : ByteArray) : AtX (W.setCell ⟨x, i * 3, none⟩ (.string b)) x { d with fs := d.fs.set i ⟨b, (d.f i).lasts, (d.f i).cl⟩ } := by
  refine h.put (by simp [h.1]) _ _ ?_
  obtain ⟨a0, a1, a2, a3, a4, a5, a6, a7, e⟩ := eight h.1; unfold XV.cells XV.f; simp only [e]
  rcases below8 hi with rfl | rfl | rfl | rfl | rfl | rfl | rfl | rfl <;> rfl
theorem AtX.setL (h : AtX W x d) {i : Nat} (hi : i < 8) (b : ByteArray) : AtX (W.setCell ⟨x, i * 3 + 1, none⟩ (.string b)) x { d with fs := d.fs.set i ⟨(d.f i).told, b, (d.f i).cl⟩ } := by
  refine h.put (by simp [h.1]) _ _ ?_
  obtain ⟨a0, a1, a2, a3, a4, a5, a6, a7, e⟩ := eight h.1; unfold XV.cells XV.f; simp only [e]
  rcases below8 hi with rfl | rfl | rfl | rfl | rfl | rfl | rfl | rfl <;> rfl
theorem AtX.setC (h : AtX W x d) {i : Nat} (hi : i < 8) (b : Bool) : AtX (W.setCell ⟨x, i * 3 + 2, none⟩ (.bool b)) x { d with fs := d.fs.set i ⟨(d.f i).told, (d.f i).lasts, b⟩ } := by
  refine h.put (by simp [h.1]) _ _ ?_
  obtain ⟨a0, a1, a2, a3, a4, a5, a6, a7, e⟩ := eight h.1; unfold XV.cells XV.f; simp only [e]
  rcases below8 hi with rfl | rfl | rfl | rfl | rfl | rfl | rfl | rfl <;> rfl
end
section
variable {W : World} {x : Nat} {s : DS} {kv : Value}
theorem len_of (h : AtX W x (toXV s kv)) : s.fs.length = 8 := by have := h.1; unfold toXV at this; simpa using this
theorem toXV_set (s : DS) (kv : Value) (i : Nat) (f : Fl) : ({ toXV s kv with fs := (toXV s kv).fs.set i (toXF f) } : XV) = toXV (setF s i f) kv := by
  unfold toXV setF fuseP
  simp only [List.map_set]
theorem AtX.tell (h : AtX W x (toXV s kv)) {i : Nat} (hi : i < 8) (l : List Int) : AtX (W.setCell ⟨x, i * 3, none⟩ (.string (strOfNums l))) x (toXV (setF s i ⟨l, (fl s i).lasts, (fl s i).cl⟩) kv) := by
  have h2 := h.setT hi (strOfNums l)
  rw [toXV_f (len_of h) hi] at h2
  rw [← toXV_set]; exact h2
theorem AtX.last (h : AtX W x (toXV s kv)) {i : Nat} (hi : i < 8) (l : List Int) : AtX (W.setCell ⟨x, i * 3 + 1, none⟩ (.string (strOfNums l))) x (toXV (setF s i ⟨(fl s i).seen, l, (fl s i).cl⟩) kv) := by
  have h2 := h.setL hi (strOfNums l)
  rw [toXV_f (len_of h) hi] at h2
  rw [← toXV_set]; exact h2
theorem AtX.clear (h : AtX W x (toXV s kv)) {i : Nat} (hi : i < 8) (b : Bool) : AtX (W.setCell ⟨x, i * 3 + 2, none⟩ (.bool b)) x (toXV (setF s i ⟨(fl s i).seen, (fl s i).lasts, b⟩) kv) := by
  have h2 := h.setC hi b
  rw [toXV_f (len_of h) hi] at h2
  rw [← toXV_set]; exact h2
theorem fl_set (s : DS) (h : s.fs.length = 8) {i : Nat} (hi : i < 8) (f : Fl) : fl (setF s i f) i = f := by rw [fl_setF s h hi, if_pos rfl]
theorem set_set (s : DS) (i : Nat) (f f' : Fl) : setF (setF s i f) i f' = setF s i f' := by unfold setF; simp only [List.set_set]
theorem AtX.whole (h : AtX W x (toXV s kv)) {i : Nat} (hi : i < 8) (a b : List Int) (c : Bool) : AtX (((W.setCell ⟨x, i * 3, none⟩ (.string (strOfNums a))).setCell ⟨x, i * 3 + 1, none⟩ (.string (strOfNums b))).setCell ⟨x, i * 3 + 2, none⟩ (.bool c)) x (toXV (setF s i ⟨a, b, c⟩) kv) := by
  have hl := len_of h
  have h1 := h.tell hi a
  have h2 := h1.last hi b
  have h3 := h2.clear hi c
  have l1 := len_of h1
  have l2 := len_of h2
  rw [fl_set _ l1 hi, fl_set _ hl hi, set_set, set_set] at h3
  exact h3
end
structure IsX (G : Nat → Prop) (W : World) (x : Nat) (s : DS) : Prop where
  lt : ∀ b, G b → b < W.heap.size
  gg : G x
  ex : ∃ kv, AtX W x (toXV s kv) ∧ Rw G .i64 W kv s.keep
theorem IsX.other {G : Nat → Prop} {x g' : Nat} {W W' : World} {s : DS} (h : IsX G W x s) (hw : Wr g' W W') (hg : G g') (hne : x ≠ g') : IsX G W' x s := by
  obtain ⟨h1, h2, kv, hA, hR⟩ := h
  exact ⟨fun b hb => Nat.lt_of_lt_of_le (h1 b hb) hw.size, h2, kv, hA.same (hw.block x (h1 x h2) hne), hR.wr hw hg⟩
theorem IsX.below {G : Nat → Prop} {x : Nat} {W W' : World} {s : DS} (h : IsX G W x s) (hw : Below W.heap.size W W') : IsX G W' x s := by
  obtain ⟨h1, h2, kv, hA, hR⟩ := h
  exact ⟨fun b hb => Nat.lt_of_lt_of_le (h1 b hb) hw.size, h2, kv, hA.same (hw.block x (h1 x h2)), hR.wr (Wr.of_below hw) h2⟩
def mayP (s : DS) (i : Int) : Int := if s.off = true then 50 else if i < 0 ∨ 8 ≤ i then 51 else 0
theorem may_able {s : DS} (h : s.room ≠ 0) (i : Int) : ableP s i = mayP s i := by unfold ableP mayP; rw [if_neg h]
set_option maxHeartbeats 2000000 in
theorem may_calls (G : Nat → Prop) (x : Nat) (s : DS) (i : Int) (w : World) (h : IsX G w x s) : Calls Try.prog 59 #[.pointer (some ⟨x, 0, none⟩), .int .i64 i] w fun e w' => e = .returned (.int .i64 (mayP s i)) ∧ Drawn0 w w' := by
  obtain ⟨_, _, kv, hA, hR⟩ := h
  have hc25 := hA.c25
  have HAB := Aside0.mk (show mayP s i = if s.off = true then 50 else if i < 0 ∨ 8 ≤ i then 51 else 0 from rfl)
  replace hc25 : w.cell? ⟨x, 25, none⟩ = some (.bool s.off) := hc25
  clear hA hR
  rw [HAB.out]
  by_cases c2 : s.off = true
  · rw [if_pos c2]
    rw [c2] at hc25
    clear c2 HAB
    go_enter Try.func59, Try.ntmps59
    go_wp2
    go_ret
    exact ⟨rfl, Drawn0.refl _⟩
  · rw [if_neg c2]
    have c2' : s.off = false := by simpa using c2
    rw [c2'] at hc25
    clear c2 c2' HAB
    by_cases c3 : i < 0
    · rw [if_pos (.inl c3)]
      have d3 : decide (i < 0) = true := decide_eq_true c3
      go_enter Try.func59, Try.ntmps59
      go_wp2
      go_ret
      exact ⟨rfl, Drawn0.refl _⟩
    · have d3 : decide (i < 0) = false := decide_eq_false c3
      by_cases c4 : 8 ≤ i
      · rw [if_pos (.inr c4)]
        have d4 : decide (7 < i) = true := decide_eq_true (by omega)
        go_enter Try.func59, Try.ntmps59
        go_wp2
        go_ret
        exact ⟨rfl, Drawn0.refl _⟩
      · rw [if_neg (by omega)]
        have d4 : decide (7 < i) = false := decide_eq_false (by omega)
        go_enter Try.func59, Try.ntmps59
        go_wp2
        go_ret
        exact ⟨rfl, Drawn0.refl _⟩
theorem may_cases (s : DS) (i : Int) : (mayP s i ≠ 0) ∨ (mayP s i = 0 ∧ ∃ j : Nat, j < 8 ∧ i = (j : Int) ∧ s.off = false) := by
  unfold mayP
  by_cases c2 : s.off = true
  · rw [if_pos c2]; exact .inl (by decide)
  · rw [if_neg c2]
    by_cases c3 : i < 0 ∨ 8 ≤ i
    · rw [if_pos c3]; exact .inl (by decide)
    · rw [if_neg c3]; exact .inr ⟨rfl, i.toNat, by omega, by omega, by simpa using c2⟩
set_option maxHeartbeats 2000000 in
theorem burn_calls (G : Nat → Prop) (x : Nat) (s : DS) (n : Nat) (w : World) (h : IsX G w x s) (hok : Ok s) (hn : n < 1000000000) : Calls Try.prog 66 #[.pointer (some ⟨x, 0, none⟩), .int .i64 (n : Int)] w fun e w' => e = .returned (.tuple #[.int .i64 ((burnN s n : Nat) : Int), .bool (struckP s n)]) ∧ IsX G w' x (burnS s n) ∧ Wr x w w' := by
  have H := Aside0.mk h
  obtain ⟨_, _, kv, hA, hR⟩ := h
  have hc : w.cell? ⟨x, 26, none⟩ = some (.int .i64 (fuseP s)) := hA.c26
  have hf := hA.frozen 26
  have HA := Aside0.mk hA
  have HR := Aside0.mk hR
  have hfu := hok.fuse
  clear hA hR hok
  by_cases c : s.set = true
  · have hfu2 := hfu c
    have HS := Aside0.mk c
    rw [show fuseP s = s.left from if_pos c] at hc
    obtain ⟨q, hq⟩ : ∃ q, s.left = q := ⟨_, rfl⟩
    have HQ := Aside0.mk hq
    rw [hq] at hc hfu2
    have d0 : (q == (0 : Int)) = false := by simp; omega
    clear hfu c hq
    by_cases c2 : q ≤ (n : Int)
    · have d1 : decide (q ≤ (n : Int)) = true := decide_eq_true c2
      have HE1 := Aside0.mk (show ((burnN s n : Nat) : Int) = q by unfold burnN; rw [if_pos ⟨HS.out, by rw [HQ.out]; exact c2⟩, HQ.out]; omega)
      have HE2 := Aside0.mk (show struckP s n = true by unfold struckP; rw [HS.out, HQ.out, d1]; rfl)
      have HE3 := Aside0.mk (show burnS s n = s by unfold burnS; rw [if_neg (fun h => by rw [HQ.out] at h; omega)])
      rw [HE1.out, HE2.out, HE3.out]
      go_enter Try.func66, Try.ntmps66
      go_wp2
      go_ret2
      exact ⟨rfl, H.out, Wr.refl _ _⟩
    · have d1 : decide (q ≤ (n : Int)) = false := decide_eq_false c2
      have HE1 := Aside0.mk (show burnN s n = n by unfold burnN; rw [if_neg (fun h => c2 (by rw [HQ.out] at h; exact h.2))])
      have HE2 := Aside0.mk (show struckP s n = false by unfold struckP; rw [HQ.out, d1, Bool.and_false])
      have HE3 := Aside0.mk (show burnS s n = { s with left := q - (n : Int) } by unfold burnS; rw [if_pos ⟨HS.out, by rw [HQ.out]; omega⟩, HQ.out])
      rw [HE1.out, HE2.out, HE3.out]
      go_enter Try.func66, Try.ntmps66
      go_wp2
      go_ret2
      have hx := HA.out.set26 (q - (n : Int))
      have hw := (Wr.refl x w).set 26 (.int .i64 (q - (n : Int)))
      refine ⟨rfl, ⟨fun b hb => Nat.lt_of_lt_of_le (H.out.lt b hb) hw.size, H.out.gg, kv, ?_, HR.out.wr hw H.out.gg⟩, hw⟩
      have : ({ toXV s kv with fuse := q - (n : Int) } : XV) = toXV { s with left := q - (n : Int) } kv := by
        show (⟨s.fs.map toXF, s.room, s.off, q - (n : Int), kv⟩ : XV) = ⟨s.fs.map toXF, s.room, s.off, (if s.set = true then q - (n : Int) else 0), kv⟩
        rw [if_pos HS.out]
      rw [← this]; exact hx
  · rw [show fuseP s = 0 from if_neg c] at hc
    have c' : s.set = false := by simpa using c
    have HE1 := Aside0.mk (show burnN s n = n by unfold burnN; rw [if_neg (fun h => c h.1)])
    have HE2 := Aside0.mk (show struckP s n = false by unfold struckP; rw [c', Bool.false_and])
    have HE3 := Aside0.mk (show burnS s n = s by unfold burnS; rw [if_neg (fun h => c h.1)])
    rw [HE1.out, HE2.out, HE3.out]
    clear c c' hfu
    go_enter Try.func66, Try.ntmps66
    go_wp2
    go_ret2
    exact ⟨rfl, H.out, Wr.refl _ _⟩
set_option maxHeartbeats 8000000 in
set_option maxRecDepth 100000 in
theorem RNew_calls (room : Int) (w : World) (h1 : 1 ≤ room) (h2 : room ≤ 4194304) : Calls Try.prog 11 #[.int .i64 room] w fun e w' => ∃ b, e = .returned (.tuple #[.pointer (some ⟨b, 0, none⟩), .int .i64 0]) ∧ w.heap.size ≤ b ∧ b < w'.heap.size ∧ Below w.heap.size w w' ∧ ∀ G : Nat → Prop, (∀ k, G k → k < w'.heap.size) → G b → IsX G w' b (newP room) := by
  have d1 : decide (room < 1) = false := decide_eq_false (by omega)
  have d2 : decide (4194304 < room) = false := decide_eq_false (by omega)
  clear h1 h2
  go_enter Try.func11, Try.ntmps11
  go_wp2
  go_ret2
  refine ⟨w.heap.size, rfl, Nat.le_refl _, by simp, below_alloc (Below.refl _ _) _, fun G hG hb => ⟨hG, hb, .slice none 0 0, ⟨rfl, ?_⟩, Rw.nil _ _ _⟩⟩
  exact blk_new w _
end Go.Proofs.Ytehjbhnlbjbhfaa.Rd
-- RdB
namespace Go.Proofs.Ytehjbhnlbjbhfaa.Rd
open Go Go.RowKit Go.Proofs.YtehjbhnlbjbhfaaW.PrintWords Go.Proofs.YtehjbhnlbjbhfaaW.PrintLast Go.Proofs.YtehjbhnlbjbhfaaW.PrintMore Go.Proofs.Ytehjbhnlbjbhfaa.Dk
attribute [local go_sem] max2_int min2_int max_two min_two
set_option linter.unusedVariables false
set_option linter.unusedSimpArgs false
theorem xfiles_cells {W : World} {x : Nat} {d : XV} (h : AtX W x d) : ∀ j v, (d.fs.flatMap XF.cells)[j]? = some v → W.cell? ⟨x, 0 + j, none⟩ = some v := by
  intro j v hj
  rw [Nat.zero_add, h.cell]
  unfold XV.cells
  rw [List.getElem?_append_left ((List.getElem?_eq_some_iff.1 hj).1)]
  exact hj
theorem xfiles_len {d : XV} (h : d.fs.length = 8) : (d.fs.flatMap XF.cells).length = 24 := by
  obtain ⟨a0, a1, a2, a3, a4, a5, a6, a7, e⟩ := eight h
  rw [e]; rfl
theorem xfiles_index {d : XV} (h : d.fs.length = 8) {k : Nat} (hk : k < 8) (W : World) : (Instr.index 105 (.agg (d.fs.flatMap XF.cells).toArray) (.int .i64 (k : Int))).run Try.prog W = .ok (.agg #[.string (d.f k).told, .string (d.f k).lasts, .bool (d.f k).cl]) W := by
  obtain ⟨a0, a1, a2, a3, a4, a5, a6, a7, e⟩ := eight h
  unfold XV.f
  rw [e]
  rcases below8 hk with rfl | rfl | rfl | rfl | rfl | rfl | rfl | rfl <;> kernel_rfl
set_option maxHeartbeats 8000000 in
set_option maxRecDepth 100000 in
theorem RUsed_calls (G : Nat → Prop) (x : Nat) (s : DS) (w : World) (h : IsX G w x s) (hok : Ok s) : Calls Try.prog 19 #[.pointer (some ⟨x, 0, none⟩)] w fun e w' => e = .returned (.int .i64 ((usedP s : Nat) : Int)) ∧ Below w.heap.size w w' := by
  have HU := Aside0.mk (ps_used s hok.len)
  have HPL := Aside0.mk (ps_le s)
  have HM := Aside0.mk (used_le hok)
  obtain ⟨_, _, kv, hA, hR⟩ := h
  have HFC := Aside0.mk (xfiles_cells hA)
  have HFL := Aside0.mk (xfiles_len hA.1)
  have HIX := Aside0.mk (fun (k : Nat) (hk : k < 8) (W : World) => (xfiles_index hA.1 hk W).trans (by rw [toXV_f hok.len hk]))
  have HB := Aside0.mk (Below.refl w.heap.size w)
  rw [← HU.out]
  clear hA hR hok
  generalize (toXV s kv).fs.flatMap XF.cells = X at HFC HFL HIX
  go_enter Try.func19, Try.ntmps19
  go_wp2_with (refine wpList_load_seg (P := Try.prog) rfl 105 (.tmp 8) rfl x 0 rfl X _ HFC.out Try.underlying105 rfl (by rw [HFL.out]; kernel_rfl) ?_)
  go_loopw [3, 10] (fun v3 v10 wr => ∃ k : Nat, k ≤ 8 ∧ v10 = .int .i64 (k : Int) ∧ v3 = .int .i64 ((ps s k : Nat) : Int) ∧ Aside0 (Below w.heap.size w wr)) (fun _ v10 _ => (8 - intOf v10).toNat)
  case atStart => exact ⟨0, by omega, rfl, rfl, HB⟩
  case round =>
    obtain ⟨k, hk, rfl, rfl, H⟩ := hrel
    clear HB
    have hq := HPL.out (8 - k) k (by omega)
    rw [HU.out] at hq
    have hq2 := Nat.le_trans hq HM.out
    clear hq
    by_cases hlt : k < 8
    · have hn := HPL.out (7 - k) (k + 1) (by omega)
      rw [HU.out] at hn
      have hn2 := Nat.le_trans hn HM.out
      clear hn
      have HP := Aside0.mk (show ps s (k + 1) = ps s k + (fl s k).seen.length from rfl)
      rw [HP.out] at hn2
      have ix : ∀ W : World, (Instr.index 105 (.agg X.toArray) (.int .i64 (k : Int))).run Try.prog W = .ok (.agg #[.string (strOfNums (fl s k).seen), .string (strOfNums (fl s k).lasts), .bool (fl s k).cl]) W := fun W => HIX.out k hlt W
      have hz := strOfNums_size (fl s k).seen
      generalize (fl s k).seen.length = n at *
      generalize strOfNums (fl s k).seen = t1 at *
      generalize strOfNums (fl s k).lasts = t2 at *
      generalize (fl s k).cl = cl at *
      generalize ps s k = q at *
      go_wp2
      go_roundw
      case rel => exact ⟨k + 1, by omega, by go_num, by rw [HP.out]; go_num, ⟨below_alloc H.out _⟩⟩
      case measure => simp [intOf]; omega
    · obtain rfl : k = 8 := by omega
      rw [show ((8 : Nat) : Int) = 8 from rfl]
      clear hlt hk
      go_wp2
      go_ret
      exact ⟨rfl, H.out⟩
def By (l : List Int) : Prop := ∀ x ∈ l, 0 ≤ x ∧ x < 256
def readX (s : DS) (i : Int) : List Int × Int := if mayP s i ≠ 0 then ([], mayP s i) else ((fl s i.toNat).seen, 0)
theorem bytesRow_nums (l : List Int) (h : By l) (cap j : Nat) (x : Int) (hj : l[j]? = some x) : (bytesRow (strOfNums l) cap)[j]? = some (.int .u8 x) := by
  have hlt := (List.getElem?_eq_some_iff.1 hj).1
  have hx := h x (List.mem_of_getElem? hj)
  have hs : j < (strOfNums l).data.size := by
    show j < (strOfNums l).size
    rw [strOfNums_size]; exact hlt
  rw [bytesRow_at _ _ _ hs]
  have h2 : (strOfNums l).data[j] = UInt8.ofNat x.toNat := by
    have h3 : (strOfNums l).data.toList[j]? = some (UInt8.ofNat x.toNat) := by
      rw [strOfNums_data, List.getElem?_map, hj]; rfl
    rw [Array.getElem?_toList, Array.getElem?_eq_getElem hs] at h3
    exact Option.some.inj h3
  rw [h2, UInt8.toNat_ofNat', show ((x.toNat % 2 ^ 8 : Nat) : Int) = x by omega]
theorem string_row {w : World} (l : List Int) (h : By l) (cap : Nat) (fr : Nat × Nat) (t : TypeId) (hl : l.length ≤ 9223372036854775807) : (Kd.int .u8).C (w.alloc (.cells (bytesRow (strOfNums l) cap) t fr)) (some ⟨w.heap.size, 0, none⟩) l.length l := by
  refine ⟨rfl, hl, fun _ => ⟨_, rfl, fun j x hj => ?_⟩⟩
  refine ⟨[.int .u8 x], rfl, rfl, fun i u hi => ?_⟩
  have h0 : i = 0 := by
    have := (List.getElem?_eq_some_iff.1 hi).1
    simp at this; exact this
  subst h0
  have hu : u = .int .u8 x := by simpa using hi.symm
  subst hu
  have ha : (⟨w.heap.size, 0, none⟩ : Addr).add (j * (Kd.int .u8).sz + 0) = ⟨w.heap.size, j, none⟩ := by
    rw [add_at]; simp [Kd.int, Kd.scalar]
  rw [ha, World.cell?_alloc_mark]
  exact bytesRow_nums l h cap j x hj
set_option maxHeartbeats 8000000 in
set_option maxRecDepth 100000 in
theorem RRead_calls (G : Nat → Prop) (x : Nat) (s : DS) (i : Int) (w : World) (h : IsX G w x s) (hok : Ok s) (hby : ∀ f ∈ s.fs, By f.seen) : Calls Try.prog 21 #[.pointer (some ⟨x, 0, none⟩), .int .i64 i] w fun e w' => ∃ A c, e = .returned (.tuple #[.slice A (readX s i).1.length c, .int .i64 (readX s i).2]) ∧ (readX s i).1.length ≤ c ∧ (Kd.int .u8).C w' A (readX s i).1.length (readX s i).1 ∧ Below w.heap.size w w' := by
  have H := Aside0.mk h
  have HAB := Aside0.mk (may_calls G x s i w h)
  rcases may_cases s i with c | ⟨c, j, hj, rfl, _⟩
  · have HR := Aside0.mk (show readX s i = ([], mayP s i) by unfold readX; rw [if_pos c])
    have c1 : (mayP s i != (0 : Int)) = true := by simpa using c
    have c2 : (mayP s i == (0 : Int)) = false := by simpa using c
    rw [HR.out]
    clear h c HR
    generalize mayP s i = er at *
    go_enter Try.func21, Try.ntmps21
    go_wp2_with (fail)
    refine (HAB.out).mono ?_
    rintro e w1 ⟨rfl, hd⟩
    have HD := Aside0.mk hd
    clear hd
    go_wp2
    go_ret2
    exact ⟨none, 0, rfl, Nat.le_refl _, Kd.C_nil _ _, HD.out.below⟩
  · have HR := Aside0.mk (show readX s (j : Int) = ((fl s j).seen, 0) by unfold readX; rw [if_neg (by rw [c]; decide), Int.toNat_natCast])
    rw [c] at HAB
    rw [HR.out]
    have HBY := Aside0.mk (hby _ (hok.fl_mem hj))
    have HL := Aside0.mk (hok.seen_le hj)
    obtain ⟨_, _, kv, hA, hR⟩ := h
    have hsv := hA.told hj
    rw [toXV_f hok.len hj] at hsv
    replace hsv : w.cell? ⟨x, j * 3, none⟩ = some (.string (strOfNums (fl s j).seen)) := hsv
    have hcv := fun (w : World) => run_bytes_of_string (P := Try.prog) w 9 32 5 (strOfNums (fl s j).seen) Try.underlying9 Try.underlying32 Try.underlying5
    have hz := strOfNums_size (fl s j).seen
    have HCV := Aside0.mk hcv
    rw [hz] at HCV
    clear hA hR c HR hok hby hcv
    generalize hl : (fl s j).seen = l at *
    clear hl
    obtain ⟨st, hst⟩ : ∃ st, strOfNums l = st := ⟨_, rfl⟩
    have HST := Aside0.mk hst
    rw [hst] at hsv HCV
    clear hst hz
    have hcv := HCV.out
    go_enter Try.func21, Try.ntmps21
    go_wp2_with (fail)
    refine (HAB.out).mono ?_
    rintro e w1 ⟨rfl, hd⟩
    obtain ⟨nd, rfl⟩ := hd
    go_wp2_with (fail)
    go_ret2
    refine ⟨_, _, rfl, ?_, ?_, ?_⟩
    · exact grownCap_ge _ _ _ _
    · rw [← HST.out]; exact string_row l HBY.out _ _ _ (by have := HL.out; omega)
    · exact below_alloc (below_drew1 (pw_below_drewN (Below.refl _ _) nd)) _
end Go.Proofs.Ytehjbhnlbjbhfaa.Rd
