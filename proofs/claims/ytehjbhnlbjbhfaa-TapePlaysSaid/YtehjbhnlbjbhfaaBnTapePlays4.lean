/- Texts that the row of LawTapePlays rests on, part 4 of 15: contracts of the functions, their walks, plain laws. -/
import Derived.Test.YtehjbhnlbjbhfaaBnTapePlays3
import Derived.Test.YtehjbhnlbjbhfaaProg
import Derived.ArgAppend
import Derived.Laws.BitsLemmas
import Derived.Laws.Rows
import Derived.WalkKit
import Derived.KernelRfl
import Derived.RowKit3
import Derived.Deep.LoopGhost
import Derived.Deep.QuietTactic
import Derived.BigQuiet
import Derived.WideLaws
import Derived.Outline
-- PutT
namespace Go.Proofs.Ytehjbhnlbjbhfaa.Wire
open Go Go.RowKit Go.Proofs.YtehjbhnlbjbhfaaW.PrintWords Go.Proofs.YtehjbhnlbjbhfaaW.PrintLast Go.Proofs.YtehjbhnlbjbhfaaW.PrintMore
set_option linter.unusedVariables false
theorem info5 : (Try.prog.info? 5).map (fun i => (i.zero, i.size, i.bytes)) = some (some (.int .u8 0), 1, 1) := by kernel_rfl
def enc : Nat → Nat → List Int
  | 0, n => [(n : Int)]
  | f + 1, n => if n < 128 then [(n : Int)] else (128 + n % 128 : Int) :: enc f (n / 128)
theorem enc_ne (f n : Nat) : enc f n ≠ [] := by
  cases f with
  | zero => simp [enc]
  | succ f => unfold enc; split <;> simp
theorem enc_len (f : Nat) : ∀ n, (enc f n).length ≤ f + 1 := by
  induction f with
  | zero => intro n; simp [enc]
  | succ f ih => intro n; unfold enc; split
                 · simp
                 · have := ih (n / 128); simp; omega
def encs (l : List Int) : List Int := l.flatMap fun n => enc 9 n.toNat
theorem encs_len (l : List Int) : (encs l).length ≤ 10 * l.length := by
  induction l with
  | nil => simp [encs]
  | cons a l ih =>
    have := enc_len 9 a.toNat
    unfold encs at *
    rw [List.flatMap_cons, List.length_append, List.length_cons]; omega
theorem encs_snoc (l : List Int) (a : Int) : encs (l ++ [a]) = encs l ++ enc 9 a.toNat := by unfold encs; rw [List.flatMap_append]; simp
theorem encs_take (l : List Int) (j : Nat) (h : j < l.length) : encs (l.take (j + 1)) = encs (l.take j) ++ enc 9 (rd l j).toNat := by
  rw [List.take_succ_eq_append_getElem h, encs_snoc]
  have : l[j] = rd l (j : Int) := by unfold rd; rw [Int.toNat_natCast, List.getD_eq_getElem?_getD, List.getElem?_eq_getElem h]; rfl
  rw [this]
theorem encs_nil {l : List Int} (h : encs l = []) : l = [] := by
  cases l with
  | nil => rfl
  | cons a l =>
    unfold encs at h
    rw [List.flatMap_cons] at h
    exact absurd (List.append_eq_nil_iff.1 h).1 (enc_ne _ _)
theorem or128 : ∀ a : Nat, a < 256 → Go.bits .or .u8 (a : Int) 128 = ((128 + a % 128 : Nat) : Int) := by decide +kernel
def OnO (A : Option Addr) (l : List Int) (W : World) (base : Nat) (v : Value) (xs : List Int) : Prop :=
  (v = .slice A l.length l.length ∧ xs = l ∧ Kd.C (Kd.int .u8) W A l.length l ∧ (A = none → l = [])) ∨ Kd.R (Kd.int .u8) 5 W base (fun _ => True) v xs
theorem OnO.slice {A : Option Addr} {l : List Int} {W : World} {base : Nat} {v : Value} {xs : List Int} (h : OnO A l W base v xs) : ∃ A' c, v = .slice A' xs.length c := by
  rcases h with ⟨rfl, rfl, _, _⟩ | h
  · exact ⟨_, _, rfl⟩
  · exact Kd.R_slice h
theorem append_on {ops : Array Oper} {rest : List Oper} {o : Oper} {a : Act} {Q : Exit → Act → World → Prop} {w0 W : World} (base : Nat) (hgd : o.guard = none) (s x : Operand)
    (ho : o.op = .call { callee := .builtin .append, args := #[s, x], argTypes := #[32, 32] }) (A : Option Addr) (l : List Int) (v : Value) (xs : List Int) (p : Int) (hs : a.eval s = v) (hx : a.eval x = .slice (some ⟨W.heap.size, 0, none⟩) 1 1)
    (HO : OnO A l W base v xs) (HB : Below base w0 W) (hbase : base ≤ W.heap.size) (hl : xs.length + 1 ≤ 140737488355328)
    (h : ∀ v1 w1, Kd.R (Kd.int .u8) 5 w1 base (fun _ => True) v1 (xs ++ [p]) → Below base w0 w1 → wpList Try.prog ops Q rest (a.put o.dst v1) w1) :
    wpList Try.prog ops Q (o :: rest) a (W.alloc (.cells #[.int .u8 p] 5)) := by
  rcases HO with ⟨rfl, rfl, hC, hn⟩ | HR
  · obtain ⟨i0, hi, hz0, hz1, hz2⟩ := info_parts info5
    have hsz : (W.alloc (.cells #[.int .u8 p] 5)).heap.size = W.heap.size + 1 := by simp
    have hb1 := HB.alloc hbase (.cells #[.int .u8 p] 5)
    refine wpList_append_grows (W.alloc (.cells #[.int .u8 p] 5)) hgd s x 32 ho 5 i0 (.int .u8 0) 1 1 Try.underlying32 hi hz0 hz1 hz2 rfl (by decide) A xs.length xs.length (nums .u8 xs) hs (fun e => by rw [hn e]; exact ⟨rfl, rfl⟩) (by simp [nums]) ?_ ⟨W.heap.size, 0, none⟩ 1 1 [.int .u8 p] hx rfl ?_ (by simp [Value.oneCell']) (by omega) (by unfold maxLen; omega) (by omega) ?_
    · intro b e j u hj
      subst e
      have hlt : j < xs.length := by have := (List.getElem?_eq_some_iff.1 hj).1; simpa [nums] using this
      obtain ⟨ad, e2, hc⟩ := Kd.at_int hC (j : Int) (by omega) (by omega)
      cases e2
      rw [Int.toNat_natCast] at hc
      have hu : u = .int .u8 (rd xs (j : Int)) := by
        simp only [nums, List.getElem?_map, List.getElem?_eq_getElem hlt, Option.map_some, Option.some.injEq] at hj
        rw [← hj]; unfold rd; rw [Int.toNat_natCast, List.getD_eq_getElem?_getD, List.getElem?_eq_getElem hlt]; rfl
      rw [hu]
      exact (World.cell?_alloc_lt _ _ _ (World.block_lt_of_cell? W _ hc)).trans hc
    · intro j u hj
      have : j = 0 := by have := (List.getElem?_eq_some_iff.1 hj).1; simp at this; omega
      subst this
      simp at hj
      subst hj
      rw [add_plain]
      simp
    · intro v1 w1 hown hg
      refine h v1 w1 (Kd.R_of_own (enc := Value.int .u8) (h1 := fun _ => rfl) ?_ (fun _ _ => trivial)) (hb1.grown hg (by omega) (fun k hk => by cases hk))
      have := own_weaken hown (base' := base) (by omega)
      show w1.ownsRow base 5 1 v1 (xs ++ [p]).length (Go.Proofs.YtehjbhnlbjbhfaaW.PrintWords.encs (Value.int .u8) (xs ++ [p]))
      rw [List.length_append]
      simpa [nums, Go.Proofs.YtehjbhnlbjbhfaaW.PrintWords.encs] using this
  · refine Kd.R_append (Kd.int .u8) (w0 := w0) base hgd s x 32 5 (.int .u8 0) 1 ho Try.underlying32 info5 rfl (by decide) (by omega) v xs p [.int .u8 p] (fun _ => True) (fun _ => False) hs hx rfl (fun _ hk => hk.elim) (fun _ _ => trivial) HR HB hbase (by omega) ?_
    intro v1 w1 h1 h2 _ _
    exact h v1 w1 h1 h2
set_option maxHeartbeats 2000000 in
set_option maxRecDepth 100000 in
theorem Put_any (A0 : Option Addr) (c0 : Nat) (l0 : List Int) (A1 : Option Addr) (c1 : Nat) (l1 : List Int) (w : World) (hr0 : Kd.C (Kd.int .u8) w A0 l0.length l0) (hc0 : l0.length ≤ c0) (hr1 : Kd.C (Kd.int .u64) w A1 l1.length l1) (hc1 : l1.length ≤ c1)
    (hn : A0 = none → l0 = []) (hb1 : ∀ x ∈ l1, 0 ≤ x ∧ x < 18446744073709551616) (hlen : l0.length + 10 * l1.length < 140737488355328) :
    Calls Try.prog 77 #[.slice A0 l0.length c0, .slice A1 l1.length c1] w fun e w' => ∃ v, e = .returned v ∧ OnO A0 l0 w' w.heap.size v (l0 ++ encs l1) ∧ Below w.heap.size w w' := by
  have HR0 := Aside0.mk hr0
  have HC0 := Aside0.mk hc0
  have HR1 := Aside0.mk hr1
  have HC1 := Aside0.mk hc1
  have HN := Aside0.mk hn
  have HB1 := Aside0.mk hb1
  clear hr0 hr1 hc1 hn hb1
  have hm1 := HR1.out.2.1
  go_enter Try.func77, Try.ntmps77
  go_wp2
  go_loopw [0, 15] (fun v0 v15 wr => ∃ j : Nat, j ≤ l1.length ∧ v15 = .int .i64 (j : Int) ∧ Aside0 (OnO A0 l0 wr w.heap.size v0 (l0 ++ encs (l1.take j))) ∧ Aside0 (Below w.heap.size w wr)) (fun _ v15 _ => (l1.length - intOf v15).toNat)
  case atStart => exact ⟨0, by omega, rfl, ⟨.inl ⟨rfl, by simp [encs], HR0.out, HN.out⟩⟩, ⟨Below.refl _ _⟩⟩
  case round =>
    obtain ⟨j, hj, rfl, HO, HB⟩ := hrel
    by_cases hlt : j < l1.length
    · obtain ⟨ad, e0, hx⟩ := Kd.at_int HR1.out (j : Int) (by omega) (by omega)
      cases e0
      replace hx := (HB.out.cell (World.block_lt_of_cell? w _ hx)).trans hx
      rw [Int.toNat_natCast] at hx
      have hmem : rd l1 (j : Int) ∈ l1 := by unfold rd; rw [Int.toNat_natCast, List.getD_eq_getElem?_getD, List.getElem?_eq_getElem hlt]; exact List.getElem_mem hlt
      obtain ⟨hp0, hp1⟩ := HB1.out _ hmem
      have HT := Aside0.mk (encs_take l1 j hlt)
      have HTL := Aside0.mk (encs_len (l1.take j))
      have htl : (l1.take j).length ≤ j := List.length_take_le _ _
      clear hmem
      generalize rd l1 (j : Int) = y at *
      obtain ⟨n, rfl⟩ := Int.eq_ofNat_of_zero_le hp0
      rw [Int.toNat_natCast] at HT
      obtain ⟨wo, rfl⟩ : ∃ wo : World, wo = wr := ⟨_, rfl⟩
      go_wp2
      go_loopw [0, 6] (fun v0 v6 wr => ∃ (f m : Nat) (acc : List Int), v6 = .int .u64 (m : Int) ∧ m < 18446744073709551616 ∧ Aside0 (m < 128 ^ (f + 1) ∧ acc.length + (enc f m).length ≤ l0.length + 10 * l1.length ∧ acc ++ enc f m = l0 ++ encs (l1.take (j + 1))) ∧ Aside0 (OnO A0 l0 wr w.heap.size v0 acc) ∧ Aside0 (Below w.heap.size w wr)) (fun _ v6 _ => (intOf v6).toNat)
      case atStart => exact ⟨9, n, l0 ++ encs (l1.take j), rfl, by omega, ⟨by omega, by have h1 := HTL.out; have h2 := enc_len 9 n; rw [List.length_append]; omega, by rw [HT.out, List.append_assoc]⟩, HO, HB⟩
      case round =>
        obtain ⟨f, m, acc, rfl, hm, HF, HO, HB⟩ := hrel
        have HM := Aside0.mk hm
        clear hm
        have HLEN := Aside0.mk (show acc.length + 1 ≤ 140737488355328 by have h1 := HF.out.2.1; have h2 := List.length_pos_iff.2 (enc_ne f m); omega)
        have HJ := Aside0.mk hj
        have HLT := Aside0.mk hlt
        have HL1 := Aside0.mk hm1
        clear hp0 hp1 hx htl hlt hj hm1 hlen hc0
        by_cases hge : m < 128
        · have d1 : decide ((128 : Int) ≤ (m : Int)) = false := decide_eq_false (by omega)
          have HGE := Aside0.mk hge
          clear hge
          go_wp2_with (first | ((with_reducible refine gate_builtin (b := .append) (xs := #[.tmp 29, .tmp 32]) rfl ?_); at_builtin; refine append_on w.heap.size rfl (.tmp 29) (.tmp 32) rfl A0 l0 _ acc _ rfl rfl HO.out HB.out ?hb ?hl ?_; (case hb => exact HB.out.size); (case hl => exact HLEN.out); intro v1 w1 h1 h2; have HO1 := Aside0.mk h1; have HB1 := Aside0.mk h2; clear h1 h2))
          have hw : wrap64 ((j : Int) + 1) = ((j + 1 : Nat) : Int) := by
            have := HLT.out; have := HL1.out
            unfold wrap64; omega
          rw [hw]
          refine ⟨⟨j + 1, HLT.out, rfl, ⟨.inr ?_⟩, HB1⟩, ?_⟩
          · have h3 := HO1.out
            have h4 := HF.out.2.2
            have h5 : enc f m = [((m : Int)) % 256] := by
              have := HGE.out
              rw [show (m : Int) % 256 = m by omega]
              cases f with
              | zero => rfl
              | succ f => unfold enc; rw [if_pos this]
            rw [h5] at h4
            rw [← h4]; exact h3
          · simp only [intOf]; have := HLT.out; omega
        · have d1 : decide ((128 : Int) ≤ (m : Int)) = true := decide_eq_true (by omega)
          have HGE := Aside0.mk hge
          clear hge
          go_wp2_with (first | ((with_reducible refine gate_builtin (b := .append) (xs := #[.tmp 21, .tmp 25]) rfl ?_); at_builtin; refine append_on w.heap.size rfl (.tmp 21) (.tmp 25) rfl A0 l0 _ acc _ rfl rfl HO.out HB.out ?hb ?hl ?_; (case hb => exact HB.out.size); (case hl => exact HLEN.out); intro v1 w1 h1 h2; have HO1 := Aside0.mk h1; have HB1 := Aside0.mk h2; clear h1 h2))
          obtain ⟨f, rfl⟩ : ∃ f', f = f' + 1 := by
            cases f with
            | zero => exact absurd HF.out.1 (by have := HGE.out; omega)
            | succ f' => exact ⟨f', rfl⟩
          have h5 : enc (f + 1) m = (128 + (m : Int) % 128) :: enc f (m / 128) := by
            have := HGE.out
            show (if m < 128 then _ else _) = _
            rw [if_neg this]
          have h6 : Go.bits .or .u8 ((m : Int) % 256) 128 = 128 + (m : Int) % 128 := by
            have h := or128 (m % 256) (Nat.mod_lt _ (by decide))
            rw [show ((m % 256 : Nat) : Int) = (m : Int) % 256 by omega] at h
            rw [h]; omega
          have h4 := HF.out
          rw [h5] at h4
          refine ⟨⟨f, m / 128, acc ++ [128 + (m : Int) % 128], by rw [show ((m / 128 : Nat) : Int) = (m : Int) / 128 by omega], ?_, ⟨?_, ?_, ?_⟩, ⟨.inr ?_⟩, HB1⟩, ?_⟩
          · have := HM.out; omega
          · have h7 := h4.1
            rw [Nat.pow_succ] at h7
            exact (Nat.div_lt_iff_lt_mul (by decide)).2 h7
          · have h7 := h4.2.1
            simp only [List.length_append, List.length_cons, List.length_nil] at h7 ⊢; omega
          · have h7 := h4.2.2
            rw [List.append_assoc]; exact h7
          · have h3 := HO1.out
            rw [h6] at h3; exact h3
          · simp only [intOf]; have := HGE.out; omega
    · have HT := Aside0.mk (show l1.take j = l1 from List.take_of_length_le (by omega))
      rw [HT.out] at HO
      go_wp2
      go_ret
      exact ⟨_, rfl, HO.out, HB.out⟩
end Go.Proofs.Ytehjbhnlbjbhfaa.Wire
-- Read
namespace Go.Proofs.Ytehjbhnlbjbhfaa.Wire
open Go Go.RowKit Go.Proofs.YtehjbhnlbjbhfaaW.PrintWords Go.Proofs.YtehjbhnlbjbhfaaW.PrintLast Go.Proofs.YtehjbhnlbjbhfaaW.PrintMore
open Go.Proofs.Ytehjbhnlbjbhfaa.WBase (IsS146 IsS146.new)
set_option linter.unusedVariables false
theorem Read_calls (A0 : Option Addr) (c0 : Nat) (l0 : List Int) (w : World) (hr0 : Kd.C (Kd.int .u8) w A0 l0.length l0) (hc0 : l0.length ≤ c0) (hlen : l0.length < 140737488355328) :
    Calls Try.prog 79 #[.slice A0 l0.length c0] w fun e w' => ∃ w1 g, e = .returned (.pointer (some ⟨g, 0, none⟩)) ∧ IsS146 w1 w' g l0 0 0 true ∧ Below w.heap.size w w1 ∧ Below w1.heap.size w1 w' := by
  have HR0 := Aside0.mk hr0
  have HC0 := Aside0.mk hc0
  have LM := Aside0.mk hlen
  clear hr0 hc0 hlen
  have HB := Aside0.mk (Below.refl w.heap.size w)
  obtain ⟨y1, Ny1⟩ : ∃ y_ : List Int, Aside0 (y_ = ([] : List Int)) := ⟨_, ⟨rfl⟩⟩
  have LM2 := Aside0.mk (show y1.length + l0.length < 140737488355328 by have := LM.out; rw [Ny1.out]; simpa using this)
  have Ny2 := Aside0.mk (show l0 = y1 ++ l0 by rw [Ny1.out]; rfl)
  go_enter Try.func79, Try.ntmps79
  go_wp2_with (first | ((with_reducible refine gate_dst (N := 3) rfl ?_); refine Kd.R_lit (Kd.int .u8) _ 5 ?hg (N := 3) ?hd (xs := ([] : List Int)) (inner := []) (ok := fun _ => True) (okp := fun _ => True) ?hr ?hp (fun _ hk => hk) trivial (Below.refl _ _) (Nat.le_refl _) (by simp) ?_; (case hd => rfl); (case hg => rfl); (case hr => first | (go_simp; done) | (go_simp; rfl)); (case hp => exact (Reps.none _ _)); intro va w4 ho5 hb hg_ hnew_; clear hg_ hnew_; (first | rw [← Ny1.out] at ho5 | (simp only [Int.reduceToNat] at ho5; rw [← Ny1.out] at ho5)); have n0_ := Aside0.mk (Kd.R_lower ho5 (below_size (HB.out))); have n1_ := Aside0.mk (below_step (HB.out) hb); clear HB; have HOa := n0_; have HB := n1_; clear n0_ n1_; clear hb ho5) | ((with_reducible refine gate_builtin (b := .append) (xs := #[.tmp 3, .tmp 4]) rfl ?_); at_builtin; refine Kd.R_append_rows (Kd.int .u8) (w0 := w) w.heap.size rfl (.tmp 3) (.tmp 4) 32 5 (.int .u8 0) 1 rfl Try.underlying32 info5 rfl (by decide) (by omega) va y1 l0 _ _ _ (fun _ => True) (fun _ => False) rfl rfl ?aO ?aR (fun _ _ h => h) (fun _ h => h.elim) ?aF ?aB ?aS ?aL ?_; (case aR => exact (Kd.C_below HR0.out HB.out)); (case aB => exact HB.out); (case aF => exact (fun _ _ => trivial)); (case aO => exact HOa.out); (case aS => exact (below_size (HB.out))); (case aL => have := LM2.out; omega); intro vb w6 ho hb hg hat; rw [← Ny2.out] at ho; have n0_ := Aside0.mk (hb); have n1_ := Aside0.mk (ho); clear HB; clear HOa; have HB := n0_; have HOa := n1_; clear n0_ n1_; clear ho hb hg hat; obtain ⟨Ao7, co7, eo7⟩ := Kd.R_slice HOa.out; subst eo7))
  go_ret
  exact ⟨w6, _, rfl, IsS146.new w6 w6 _ _ l0 0 0 true (Below.refl _ _) ⟨(Kd.R_reads' HOa.out).2.2, (Kd.R_reads' HOa.out).2.1⟩, HB.out, below_alloc (Below.refl _ _) _⟩
end Go.Proofs.Ytehjbhnlbjbhfaa.Wire
-- WRef
namespace Go.Proofs.Ytehjbhnlbjbhfaa.WBase
open Go.RowKit Go.Proofs.YtehjbhnlbjbhfaaW.PrintWords Go.Proofs.YtehjbhnlbjbhfaaW.PrintLast Go.Proofs.YtehjbhnlbjbhfaaW.PrintMore
attribute [local go_sem] max2_int min2_int max_two min_two
set_option linter.unusedVariables false
set_option linter.unusedSimpArgs false
def IsS140 (w0 W : World) (g : Nat) (f0 : List Int) (f1 : Int) (f2 : Int) : Prop := ∃ A0 c0, W.heap[g]? = some (.cells #[.slice A0 f0.length c0, .int .i64 f1, .int .i64 f2] 140 (0, 0)) ∧ w0.heap.size ≤ g ∧ (Kd.C (Kd.int .u8) w0 A0 f0.length f0 ∧ f0.length ≤ c0)
theorem IsS140.grown {w0 W : World} {g : Nat} {f0 : List Int} {f1 : Int} {f2 : Int} {W1 : World} {row : Option Nat} (h : IsS140 w0 W g f0 f1 f2) (hw : W.grownBy W1 row) (hne : some g ≠ row) : IsS140 w0 W1 g f0 f1 f2 := by
  obtain ⟨A0, c0, hb, hg, hr0⟩ := h
  exact ⟨A0, c0, blk_grown hb hw hne, hg, hr0⟩
theorem IsS140.fresh {w0 W : World} {g : Nat} {f0 : List Int} {f1 : Int} {f2 : Int} (h : IsS140 w0 W g f0 f1 f2) : ∀ k, W.heap.size ≤ k → k ≠ g := by
  obtain ⟨A0, c0, hb, hg, hr0⟩ := h
  exact Kd.freshB hb
theorem IsS140.below {w0 W : World} {g : Nat} {f0 : List Int} {f1 : Int} {f2 : Int} {W1 : World} (h : IsS140 w0 W g f0 f1 f2) (hw : Below W.heap.size W W1) : IsS140 w0 W1 g f0 f1 f2 := h.grown (grown_of_below hw none) (by simp)
theorem IsS140.drewN {w0 W : World} {g : Nat} {f0 : List Int} {f1 : Int} {f2 : Int} (h : IsS140 w0 W g f0 f1 f2) (m : Nat) : IsS140 w0 (W.drewN m) g f0 f1 f2 := h
theorem IsS140.ge {w0 W : World} {g : Nat} {f0 : List Int} {f1 : Int} {f2 : Int} (h : IsS140 w0 W g f0 f1 f2) : w0.heap.size ≤ g := by
  obtain ⟨A0, c0, hb, hg, hr0⟩ := h
  exact hg
theorem cellS71_0 {W : World} {g : Nat} {A0 : Option Addr} {c0 : Nat} {f0 : List Int} {f1 : Int} {f2 : Int} (h : W.heap[g]? = some (.cells #[.slice A0 f0.length c0, .int .i64 f1, .int .i64 f2] 140 (0, 0))) : W.cell? ⟨g, 0, none⟩ = some (.slice A0 f0.length c0) := (blk_cell h 0).trans rfl
theorem cellS71_1 {W : World} {g : Nat} {A0 : Option Addr} {c0 : Nat} {f0 : List Int} {f1 : Int} {f2 : Int} (h : W.heap[g]? = some (.cells #[.slice A0 f0.length c0, .int .i64 f1, .int .i64 f2] 140 (0, 0))) : W.cell? ⟨g, 1, none⟩ = some (.int .i64 f1) := (blk_cell h 1).trans rfl
theorem IsS140.set_1 {w0 W : World} {g : Nat} {f0 : List Int} {f1 : Int} {f2 : Int} (h : IsS140 w0 W g f0 f1 f2) (x : Int) : IsS140 w0 (W.setCell ⟨g, 1, none⟩ (.int .i64 x)) g f0 x f2 := by
  obtain ⟨A0, c0, hb, hg, hr0⟩ := h
  exact ⟨A0, c0, by simpa using blk_set hb 1 (.int .i64 x), hg, hr0⟩
theorem cellS71_2 {W : World} {g : Nat} {A0 : Option Addr} {c0 : Nat} {f0 : List Int} {f1 : Int} {f2 : Int} (h : W.heap[g]? = some (.cells #[.slice A0 f0.length c0, .int .i64 f1, .int .i64 f2] 140 (0, 0))) : W.cell? ⟨g, 2, none⟩ = some (.int .i64 f2) := (blk_cell h 2).trans rfl
theorem IsS140.set_2 {w0 W : World} {g : Nat} {f0 : List Int} {f1 : Int} {f2 : Int} (h : IsS140 w0 W g f0 f1 f2) (x : Int) : IsS140 w0 (W.setCell ⟨g, 2, none⟩ (.int .i64 x)) g f0 f1 x := by
  obtain ⟨A0, c0, hb, hg, hr0⟩ := h
  exact ⟨A0, c0, by simpa using blk_set hb 2 (.int .i64 x), hg, hr0⟩
theorem IsS140.new (w0 W : World) (A0 : Option Addr) (c0 : Nat) (f0 : List Int) (f1 : Int) (f2 : Int) (hB : Below w0.heap.size w0 W) (hr0 : Kd.C (Kd.int .u8) w0 A0 f0.length f0 ∧ f0.length ≤ c0) : IsS140 w0 (W.alloc (.cells #[.slice A0 f0.length c0, .int .i64 f1, .int .i64 f2] 140)) W.heap.size f0 f1 f2 := ⟨A0, c0, by simpa using heap_alloc_new W _, hB.size, hr0⟩
mutual
def towlineref01_Reader_Number.l0 : Nat → Int → Int → Int → List Int → Int → Int → Option (Int × Int × Int)
  | 0, _, _, _, _, _, _ => none
  | k + 1, x3, x4, x13, x1000, x1001, x1002 => if x13 < 11 then (if (wrap64 (x1001 + x13)) ≥ (x1000.length : Int) then (some (0, x1001, 2)) else (if 0 ≤ (wrap64 (x1001 + x13)) then (if (wrap64 (x1001 + x13)) < (x1000.length : Int) then (if x13 = 10 then (towlineref01_Reader_Number.j1 k x3 x4 x13 (rd x1000 (wrap64 (x1001 + x13))) (IntKind.u64.wrap (Int.tmod (rd x1000 (wrap64 (x1001 + x13))) 128)) x13 true x1000 x1001 x1002) else (if x13 = 9 then (towlineref01_Reader_Number.j1 k x3 x4 x13 (rd x1000 (wrap64 (x1001 + x13))) (IntKind.u64.wrap (Int.tmod (rd x1000 (wrap64 (x1001 + x13))) 128)) x13 (decide ((IntKind.u64.wrap (Int.tmod (rd x1000 (wrap64 (x1001 + x13))) 128)) > 1)) x1000 x1001 x1002) else (towlineref01_Reader_Number.j1 k x3 x4 x13 (rd x1000 (wrap64 (x1001 + x13))) (IntKind.u64.wrap (Int.tmod (rd x1000 (wrap64 (x1001 + x13))) 128)) x13 false x1000 x1001 x1002))) else (none)) else (none))) else (some (0, x1001, x1002))
def towlineref01_Reader_Number.j1 : Nat → Int → Int → Int → Int → Int → Int → Bool → List Int → Int → Int → Option (Int × Int × Int)
  | 0, _, _, _, _, _, _, _, _, _, _ => none
  | k + 1, x3, x4, x5, x6, x7, x13, x55, x1000, x1001, x1002 => if x55 = true then (some (0, x1001, 5)) else (if x6 = 0 then (towlineref01_Reader_Number.j2 k x3 x4 x5 x6 x7 x13 (decide (x5 > 0)) x1000 x1001 x1002) else (towlineref01_Reader_Number.j2 k x3 x4 x5 x6 x7 x13 false x1000 x1001 x1002))
def towlineref01_Reader_Number.j2 : Nat → Int → Int → Int → Int → Int → Int → Bool → List Int → Int → Int → Option (Int × Int × Int)
  | 0, _, _, _, _, _, _, _, _, _, _ => none
  | k + 1, x3, x4, x5, x6, x7, x13, x64, x1000, x1001, x1002 => if x64 = true then (some (0, x1001, 10)) else (if x6 < 128 then (some (IntKind.u64.wrap (x3 + (IntKind.u64.wrap (x7 * x4))), wrap64 ((wrap64 (x1001 + x5)) + 1), x1002)) else (towlineref01_Reader_Number.l0 k (IntKind.u64.wrap (x3 + (IntKind.u64.wrap (x7 * x4)))) (IntKind.u64.wrap (x4 * 128)) (wrap64 (x13 + 1)) x1000 x1001 x1002))
end
def towlineref01_Reader_Number.f (k : Nat) (s0_0 : List Int) (s0_1 : Int) (s0_2 : Int) : Option (Int × Int × Int) := if s0_2 = 0 then (towlineref01_Reader_Number.l0 k 0 1 0 s0_0 s0_1 s0_2) else (some (0, s0_1, s0_2))
set_option maxHeartbeats 8000000 in
set_option maxRecDepth 100000 in
theorem towlineref01_Reader_Number.calls (k : Nat) (g : Nat) (s0_0 : List Int) (s0_1 : Int) (s0_2 : Int) (r1 : Int) (r2 : Int) (r3 : Int) (w0 w : World) (hI : IsS140 w0 w g s0_0 s0_1 s0_2) (hB : Below w0.heap.size w0 w) (h : towlineref01_Reader_Number.f k s0_0 s0_1 s0_2 = some (r1, r2, r3)) :
    Calls Try.prog 98 #[.pointer (some ⟨g, 0, none⟩)] w fun e w' => e = .returned (.int .u64 r1) ∧ IsS140 w0 w' g s0_0 r2 r3 ∧ Below w0.heap.size w0 w' ∧ KeepBut w w' g none := by
  have HI0 := Aside0.mk hI
  have HK := Aside0.mk (KeepBut.refl w g none)
  have HL := Aside0.mk hB.size
  clear hI
  have HW0 := Aside0.mk hB.size
  have HB := Aside0.mk hB
  clear hB
  have H : (if s0_2 = 0 then (towlineref01_Reader_Number.l0 k 0 1 0 s0_0 s0_1 s0_2) else (some (0, s0_1, s0_2))) = some (r1, r2, r3) := h
  clear h
  by_cases c2 : s0_2 = 0
  · rw [if_pos c2] at H
    have c2b0 : (s0_2 == 0) = true := beq_iff_eq.mpr c2
    have c2b1 : (s0_2 != 0) = false := bne_eq_false_iff_eq.mpr c2
    clear c2
    have H' := Aside0.mk H
    clear H
    obtain ⟨ASz3_0, cSz3_0, HGz3, hgz3, HSz3_0⟩ := HI0.out
    have hcz3_0 := cellS71_0 HGz3
    have hcz3_1 := cellS71_1 HGz3
    have hcz3_2 := cellS71_2 HGz3
    have hfz3_1 := blk_frozen HGz3 1
    have hfz3_2 := blk_frozen HGz3 2
    clear HGz3 hgz3
    go_enter Try.func98, Try.ntmps98
    go_wp2
    repeat (go_quiet (fail); try go_wp2)
    go_loopg [3, 4, 13] k (fun kq v3 v4 v13 w' => ∃ (x3_1 : Int) (x4_1 : Int) (x13_1 : Int) (x1001_1 : Int) (x1002_1 : Int), v3 = .int .u64 x3_1 ∧ v4 = .int .u64 x4_1 ∧ v13 = .int .i64 x13_1 ∧ Aside0 (towlineref01_Reader_Number.l0 kq x3_1 x4_1 x13_1 s0_0 x1001_1 x1002_1 = some (r1, r2, r3)) ∧ Aside0 (kq ≤ k) ∧ Aside0 (IsS140 w0 w' g s0_0 x1001_1 x1002_1) ∧ Aside0 (KeepBut w w' g none) ∧ Aside0 (Below w0.heap.size w0 w'))
    case atStart => exact ⟨(0), (1), (0), (s0_1), (s0_2), (by first | rfl | (simp; done) | (simp [*]; done)), (by first | rfl | (simp; done) | (simp [*]; done)), (by first | rfl | (simp; done) | (simp [*]; done)), H', ⟨Nat.le_refl _⟩, ⟨by repeat (first | (with_reducible first | exact HI0.out | apply IsS140.alloc | apply IsS140.drewN | apply IsS140.drew | apply IsS140.set_1 | apply IsS140.set_2) | exact HI0.out)⟩, ⟨by repeat (first | (with_reducible first | exact HK.out | apply KeepBut.set_ | apply keep_drewN | apply keep_drew | apply keep_alloc) | exact HK.out)⟩, ⟨by repeat (first | (with_reducible first | exact HB.out | apply below_alloc | apply pw_below_drewN | apply below_drew1 | refine below_set ?_ (IsS140.ge HI0.out)) | exact HB.out)⟩⟩
    case round =>
      clear H'
      try clear c2
      try clear c2b0
      try clear c2b1
      try clear p2
      try clear hcz3_0
      try clear hcz3_1
      try clear hcz3_2
      try clear hfz3_1
      try clear hfz3_2
      obtain ⟨x3_1, x4_1, x13_1, x1001_1, x1002_1, rfl, rfl, rfl, HA, HK1, HI0, HK, HB⟩ := hrel
      cases gk with
      | zero => exact absurd HA.out (by simp [towlineref01_Reader_Number.l0])
      | succ k1 =>
        have H := HA.out
        clear HA
        simp only [towlineref01_Reader_Number.l0] at H
        by_cases c4 : x13_1 < 11
        · rw [if_pos c4] at H
          have c4b0 : decide (x13_1 < 11) = true := decide_eq_true c4
          clear c4
          by_cases c5 : (wrap64 (x1001_1 + x13_1)) ≥ (s0_0.length : Int)
          · rw [if_pos c5] at H
            have c5b0 : decide ((s0_0.length : Int) ≤ (wrap64 (x1001_1 + x13_1))) = true := decide_eq_true c5
            clear c5
            simp only [Option.some.injEq, Prod.mk.injEq] at H
            obtain ⟨rfl, rfl, rfl⟩ := H
            obtain ⟨ASz6_0, cSz6_0, HGz6, hgz6, HSz6_0⟩ := HI0.out
            have hcz6_0 := cellS71_0 HGz6
            have hcz6_1 := cellS71_1 HGz6
            have hcz6_2 := cellS71_2 HGz6
            have hfz6_1 := blk_frozen HGz6 1
            have hfz6_2 := blk_frozen HGz6 2
            clear HGz6 hgz6
            go_wp2
            repeat (go_quiet (fail); try go_wp2)
            go_ret
            exact ⟨by first | rfl | (simp [errW_none, errW_some] <;> rfl) | (simp [*, errW_none, errW_some] <;> rfl), by repeat (first | (with_reducible first | exact HI0.out | apply IsS140.alloc | apply IsS140.drewN | apply IsS140.drew | apply IsS140.set_1 | apply IsS140.set_2) | exact HI0.out), by repeat (first | (with_reducible first | exact HB.out | apply below_alloc | apply pw_below_drewN | apply below_drew1 | refine below_set ?_ (IsS140.ge HI0.out)) | exact HB.out), by repeat (first | (with_reducible first | exact HK.out | apply KeepBut.set_ | apply keep_drewN | apply keep_drew | apply keep_alloc) | exact HK.out)⟩
          · rw [if_neg c5] at H
            have c5b0 : decide ((s0_0.length : Int) ≤ (wrap64 (x1001_1 + x13_1))) = false := decide_eq_false c5
            clear c5
            obtain ⟨ji7, hji7⟩ : ∃ j_ : Int, (wrap64 (x1001_1 + x13_1)) = j_ := ⟨_, rfl⟩
            replace H : (if 0 ≤ (ji7) then (if (ji7) < (s0_0.length : Int) then (if x13_1 = 10 then (towlineref01_Reader_Number.j1 k1 x3_1 x4_1 x13_1 (rd s0_0 (ji7)) (IntKind.u64.wrap (Int.tmod (rd s0_0 (ji7)) 128)) x13_1 true s0_0 x1001_1 x1002_1) else (if x13_1 = 9 then (towlineref01_Reader_Number.j1 k1 x3_1 x4_1 x13_1 (rd s0_0 (ji7)) (IntKind.u64.wrap (Int.tmod (rd s0_0 (ji7)) 128)) x13_1 (decide ((IntKind.u64.wrap (Int.tmod (rd s0_0 (ji7)) 128)) > 1)) s0_0 x1001_1 x1002_1) else (towlineref01_Reader_Number.j1 k1 x3_1 x4_1 x13_1 (rd s0_0 (ji7)) (IntKind.u64.wrap (Int.tmod (rd s0_0 (ji7)) 128)) x13_1 false s0_0 x1001_1 x1002_1))) else (none)) else (none)) = some (r1, r2, r3) := by first | (rw [hji7] at H; exact H) | (simp only [hji7] at H ⊢; exact H)
            (try rw [hji7] at c5b0)
            have hji7w : (IntKind.i64.wrap (x1001_1 + x13_1)) = ji7 := (i64_w _).trans hji7
            by_cases c8 : 0 ≤ (ji7)
            · rw [if_pos c8] at H
              have c8b0 : decide (0 ≤ (ji7)) = true := decide_eq_true c8
              clear c8
              by_cases c9 : (ji7) < (s0_0.length : Int)
              · rw [if_pos c9] at H
                have c9b0 : decide ((ji7) < (s0_0.length : Int)) = true := decide_eq_true c9
                clear c9
                have HC10 := Aside0.mk H
                clear H
                obtain ⟨ASz11_0, cSz11_0, HGz11, hgz11, HSz11_0⟩ := HI0.out
                have hcz11_0 := cellS71_0 HGz11
                have hcz11_1 := cellS71_1 HGz11
                have hcz11_2 := cellS71_2 HGz11
                have hfz11_1 := blk_frozen HGz11 1
                have hfz11_2 := blk_frozen HGz11 2
                clear HGz11 hgz11
                have p186 : 0 ≤ ((ji7) : Int) := of_decide_eq_true (by first | (with_reducible assumption) | assumption)
                have q186 : (ji7) < (s0_0.length : Int) := of_decide_eq_true (by first | (with_reducible assumption) | assumption)
                obtain ⟨ad186, e186, hx186_0⟩ := Kd.at_int HSz11_0.1 (ji7) p186 q186
                cases e186
                replace hx186_0 := pw_cell_below HB.out hx186_0
                replace p186 := eq_true p186
                replace q186 := eq_true q186
                go_upto_region 12 with (fail)
                repeat (go_quiet (fail); go_upto_region 12 with (fail))
                go_cut [55] (fun v55 wc => ∃ (kq : Nat) (x55_9 : Bool), v55 = .bool x55_9 ∧ Aside0 (towlineref01_Reader_Number.j1 kq x3_1 x4_1 x13_1 (rd s0_0 (ji7)) (IntKind.u64.wrap (Int.tmod (rd s0_0 (ji7)) 128)) x13_1 x55_9 s0_0 x1001_1 x1002_1 = some (r1, r2, r3)) ∧ Aside0 (kq ≤ k1) ∧ Aside0 (IsS140 w0 wc g s0_0 x1001_1 x1002_1) ∧ Aside0 (KeepBut w wc g none) ∧ Aside0 (Below w0.heap.size w0 wc))
                case first =>
                  have H := HC10.out
                  clear HC10
                  by_cases c12 : x13_1 = 10
                  · rw [if_pos c12] at H
                    have c12b0 : (x13_1 == 10) = true := beq_iff_eq.mpr c12
                    have c12b1 : (x13_1 != 10) = false := bne_eq_false_iff_eq.mpr c12
                    clear c12
                    (first | rw [c12b0] | (simp only [i64_w, i32_w]; rw [c12b0]) | skip)
                    have H' := Aside0.mk H
                    clear H
                    go_wp2
                    repeat (go_quiet (fail); try go_wp2)
                    go_meet
                    case rel => exact ⟨_, (true), (by first | rfl | (simp; done) | (simp [*]; done)), H', ⟨by have := HK1.out; first | omega | exact Nat.le_refl _⟩, ⟨by (try simp only [hji7]); repeat (first | (with_reducible first | exact HI0.out | apply IsS140.alloc | apply IsS140.drewN | apply IsS140.drew | apply IsS140.set_1 | apply IsS140.set_2) | exact HI0.out)⟩, ⟨by repeat (first | (with_reducible first | exact HK.out | apply KeepBut.set_ | apply keep_drewN | apply keep_drew | apply keep_alloc) | exact HK.out)⟩, ⟨by repeat (first | (with_reducible first | exact HB.out | apply below_alloc | apply pw_below_drewN | apply below_drew1 | refine below_set ?_ (IsS140.ge HI0.out)) | exact HB.out)⟩⟩
                  · rw [if_neg c12] at H
                    have c12b0 : (x13_1 == 10) = false := beq_eq_false_iff_ne.mpr c12
                    have c12b1 : (x13_1 != 10) = true := bne_iff_ne.mpr c12
                    (first | rw [c12b0] | (simp only [i64_w, i32_w]; rw [c12b0]) | skip)
                    by_cases c13 : x13_1 = 9
                    · rw [if_pos c13] at H
                      have c13b0 : (x13_1 == 9) = true := beq_iff_eq.mpr c13
                      have c13b1 : (x13_1 != 9) = false := bne_eq_false_iff_eq.mpr c13
                      clear c13
                      have H' := Aside0.mk H
                      clear H
                      go_wp2
                      repeat (go_quiet (fail); try go_wp2)
                      go_meet
                      case rel => exact ⟨_, (decide ((IntKind.u64.wrap (Int.tmod (rd s0_0 (ji7)) 128)) > 1)), (by first | rfl | (simp; done) | (simp only [← hji7] <;> (first | rfl | simp)) | (simp [*]; done)), H', ⟨by have := HK1.out; first | omega | exact Nat.le_refl _⟩, ⟨by (try simp only [hji7]); repeat (first | (with_reducible first | exact HI0.out | apply IsS140.alloc | apply IsS140.drewN | apply IsS140.drew | apply IsS140.set_1 | apply IsS140.set_2) | exact HI0.out)⟩, ⟨by repeat (first | (with_reducible first | exact HK.out | apply KeepBut.set_ | apply keep_drewN | apply keep_drew | apply keep_alloc) | exact HK.out)⟩, ⟨by repeat (first | (with_reducible first | exact HB.out | apply below_alloc | apply pw_below_drewN | apply below_drew1 | refine below_set ?_ (IsS140.ge HI0.out)) | exact HB.out)⟩⟩
                    · rw [if_neg c13] at H
                      have c13b0 : (x13_1 == 9) = false := beq_eq_false_iff_ne.mpr c13
                      have c13b1 : (x13_1 != 9) = true := bne_iff_ne.mpr c13
                      have H' := Aside0.mk H
                      clear H
                      go_wp2
                      repeat (go_quiet (fail); try go_wp2)
                      go_meet
                      case rel => exact ⟨_, (false), (by first | rfl | (simp; done) | (simp [*]; done)), H', ⟨by have := HK1.out; first | omega | exact Nat.le_refl _⟩, ⟨by (try simp only [hji7]); repeat (first | (with_reducible first | exact HI0.out | apply IsS140.alloc | apply IsS140.drewN | apply IsS140.drew | apply IsS140.set_1 | apply IsS140.set_2) | exact HI0.out)⟩, ⟨by repeat (first | (with_reducible first | exact HK.out | apply KeepBut.set_ | apply keep_drewN | apply keep_drew | apply keep_alloc) | exact HK.out)⟩, ⟨by repeat (first | (with_reducible first | exact HB.out | apply below_alloc | apply pw_below_drewN | apply below_drew1 | refine below_set ?_ (IsS140.ge HI0.out)) | exact HB.out)⟩⟩
                case rest =>
                  clear HC10
                  try clear c1
                  try clear p1
                  try clear q1
                  try clear hx1
                  try clear c2
                  try clear c2b0
                  try clear c2b1
                  try clear p2
                  try clear c4
                  try clear c4b0
                  try clear c5
                  try clear c5b0
                  try clear p6
                  try clear c8
                  try clear c8b0
                  try clear c9
                  try clear c9b0
                  try clear c12
                  try clear c12b0
                  try clear c12b1
                  try clear c13
                  try clear c13b0
                  try clear c13b1
                  try clear hcz11_0
                  try clear hcz11_1
                  try clear hcz11_2
                  try clear hcz3_0
                  try clear hcz3_1
                  try clear hcz3_2
                  try clear hcz6_0
                  try clear hcz6_1
                  try clear hcz6_2
                  try clear hfz11_1
                  try clear hfz11_2
                  try clear hfz3_1
                  try clear hfz3_2
                  try clear hfz6_1
                  try clear hfz6_2
                  try clear hx186_0
                  try clear p186
                  try clear p2
                  try clear q186
                  obtain ⟨kq, x55_9, rfl, HA, HJ9, HI0, HK, HB⟩ := hcut
                  cases kq with
                  | zero => exact absurd HA.out (by simp [towlineref01_Reader_Number.j1])
                  | succ kj9 =>
                    have H := HA.out
                    clear HA
                    simp only [towlineref01_Reader_Number.j1] at H
                    by_cases c14 : x55_9 = true
                    · subst c14
                      have H1 : (some (0, x1001_1, 5)) = some (r1, r2, r3) := by rw [if_pos rfl] at H; exact H
                      clear H
                      have H := H1
                      clear H1
                      simp only [Option.some.injEq, Prod.mk.injEq] at H
                      obtain ⟨rfl, rfl, rfl⟩ := H
                      obtain ⟨ASz15_0, cSz15_0, HGz15, hgz15, HSz15_0⟩ := HI0.out
                      have hcz15_0 := cellS71_0 HGz15
                      have hcz15_1 := cellS71_1 HGz15
                      have hcz15_2 := cellS71_2 HGz15
                      have hfz15_1 := blk_frozen HGz15 1
                      have hfz15_2 := blk_frozen HGz15 2
                      clear HGz15 hgz15
                      go_wp2
                      repeat (go_quiet (fail); try go_wp2)
                      go_ret
                      exact ⟨by first | rfl | (simp [errW_none, errW_some] <;> rfl) | (simp only [← hji7]; first | rfl | (simp [errW_none, errW_some] <;> rfl)) | (simp [*, errW_none, errW_some] <;> rfl), by (try simp only [hji7]); repeat (first | (with_reducible first | exact HI0.out | apply IsS140.alloc | apply IsS140.drewN | apply IsS140.drew | apply IsS140.set_1 | apply IsS140.set_2) | exact HI0.out), by repeat (first | (with_reducible first | exact HB.out | apply below_alloc | apply pw_below_drewN | apply below_drew1 | refine below_set ?_ (IsS140.ge HI0.out)) | exact HB.out), by repeat (first | (with_reducible first | exact HK.out | apply KeepBut.set_ | apply keep_drewN | apply keep_drew | apply keep_alloc) | exact HK.out)⟩
                    · replace c14 := Bool.eq_false_iff.mpr c14
                      subst c14
                      have H1 : (if (rd s0_0 (ji7)) = 0 then (towlineref01_Reader_Number.j2 kj9 x3_1 x4_1 x13_1 (rd s0_0 (ji7)) (IntKind.u64.wrap (Int.tmod (rd s0_0 (ji7)) 128)) x13_1 (decide (x13_1 > 0)) s0_0 x1001_1 x1002_1) else (towlineref01_Reader_Number.j2 kj9 x3_1 x4_1 x13_1 (rd s0_0 (ji7)) (IntKind.u64.wrap (Int.tmod (rd s0_0 (ji7)) 128)) x13_1 false s0_0 x1001_1 x1002_1)) = some (r1, r2, r3) := by rw [if_neg (show ¬ (false = true) by decide)] at H; exact H
                      clear H
                      have H := H1
                      clear H1
                      have HC16 := Aside0.mk H
                      clear H
                      go_upto_region 15 with (fail)
                      repeat (go_quiet (fail); go_upto_region 15 with (fail))
                      go_cut [64] (fun v64 wc => ∃ (kq : Nat) (x64_15 : Bool), v64 = .bool x64_15 ∧ Aside0 (towlineref01_Reader_Number.j2 kq x3_1 x4_1 x13_1 (rd s0_0 (ji7)) (IntKind.u64.wrap (Int.tmod (rd s0_0 (ji7)) 128)) x13_1 x64_15 s0_0 x1001_1 x1002_1 = some (r1, r2, r3)) ∧ Aside0 (kq ≤ kj9) ∧ Aside0 (IsS140 w0 wc g s0_0 x1001_1 x1002_1) ∧ Aside0 (KeepBut w wc g none) ∧ Aside0 (Below w0.heap.size w0 wc))
                      case first =>
                        have H := HC16.out
                        clear HC16
                        by_cases c17 : (rd s0_0 (ji7)) = 0
                        · rw [if_pos c17] at H
                          have c17b0 : ((rd s0_0 (ji7)) == 0) = true := beq_iff_eq.mpr c17
                          have c17b1 : ((rd s0_0 (ji7)) != 0) = false := bne_eq_false_iff_eq.mpr c17
                          clear c17
                          (first | rw [c17b0] | (simp only [i64_w, i32_w]; rw [c17b0]) | skip)
                          have H' := Aside0.mk H
                          clear H
                          go_wp2
                          repeat (go_quiet (fail); try go_wp2)
                          go_meet
                          case rel => exact ⟨_, (decide (x13_1 > 0)), (by first | rfl | (simp; done) | (simp [*]; done)), H', ⟨by have := HK1.out; have := HJ9.out; first | omega | exact Nat.le_refl _⟩, ⟨by (try simp only [hji7]); repeat (first | (with_reducible first | exact HI0.out | apply IsS140.alloc | apply IsS140.drewN | apply IsS140.drew | apply IsS140.set_1 | apply IsS140.set_2) | exact HI0.out)⟩, ⟨by repeat (first | (with_reducible first | exact HK.out | apply KeepBut.set_ | apply keep_drewN | apply keep_drew | apply keep_alloc) | exact HK.out)⟩, ⟨by repeat (first | (with_reducible first | exact HB.out | apply below_alloc | apply pw_below_drewN | apply below_drew1 | refine below_set ?_ (IsS140.ge HI0.out)) | exact HB.out)⟩⟩
                        · rw [if_neg c17] at H
                          have c17b0 : ((rd s0_0 (ji7)) == 0) = false := beq_eq_false_iff_ne.mpr c17
                          have c17b1 : ((rd s0_0 (ji7)) != 0) = true := bne_iff_ne.mpr c17
                          (first | rw [c17b0] | (simp only [i64_w, i32_w]; rw [c17b0]) | skip)
                          have H' := Aside0.mk H
                          clear H
                          go_wp2
                          repeat (go_quiet (fail); try go_wp2)
                          go_meet
                          case rel => exact ⟨_, (false), (by first | rfl | (simp; done) | (simp [*]; done)), H', ⟨by have := HK1.out; have := HJ9.out; first | omega | exact Nat.le_refl _⟩, ⟨by (try simp only [hji7]); repeat (first | (with_reducible first | exact HI0.out | apply IsS140.alloc | apply IsS140.drewN | apply IsS140.drew | apply IsS140.set_1 | apply IsS140.set_2) | exact HI0.out)⟩, ⟨by repeat (first | (with_reducible first | exact HK.out | apply KeepBut.set_ | apply keep_drewN | apply keep_drew | apply keep_alloc) | exact HK.out)⟩, ⟨by repeat (first | (with_reducible first | exact HB.out | apply below_alloc | apply pw_below_drewN | apply below_drew1 | refine below_set ?_ (IsS140.ge HI0.out)) | exact HB.out)⟩⟩
                      case rest =>
                        clear HC16
                        try clear c1
                        try clear p1
                        try clear q1
                        try clear hx1
                        try clear c2
                        try clear c2b0
                        try clear c2b1
                        try clear p2
                        try clear c4
                        try clear c4b0
                        try clear c5
                        try clear c5b0
                        try clear p6
                        try clear c8
                        try clear c8b0
                        try clear c9
                        try clear c9b0
                        try clear c12
                        try clear c12b0
                        try clear c12b1
                        try clear c13
                        try clear c13b0
                        try clear c13b1
                        try clear c14
                        try clear c17
                        try clear c17b0
                        try clear c17b1
                        try clear hcz11_0
                        try clear hcz11_1
                        try clear hcz11_2
                        try clear hcz15_0
                        try clear hcz15_1
                        try clear hcz15_2
                        try clear hcz3_0
                        try clear hcz3_1
                        try clear hcz3_2
                        try clear hcz6_0
                        try clear hcz6_1
                        try clear hcz6_2
                        try clear hfz11_1
                        try clear hfz11_2
                        try clear hfz15_1
                        try clear hfz15_2
                        try clear hfz3_1
                        try clear hfz3_2
                        try clear hfz6_1
                        try clear hfz6_2
                        try clear hx186_0
                        try clear p1
                        try clear p186
                        try clear p2
                        try clear p6
                        try clear q1
                        try clear q186
                        obtain ⟨kq, x64_15, rfl, HA, HJ15, HI0, HK, HB⟩ := hcut
                        cases kq with
                        | zero => exact absurd HA.out (by simp [towlineref01_Reader_Number.j2])
                        | succ kj15 =>
                          have H := HA.out
                          clear HA
                          simp only [towlineref01_Reader_Number.j2] at H
                          by_cases c18 : x64_15 = true
                          · subst c18
                            have H1 : (some (0, x1001_1, 10)) = some (r1, r2, r3) := by rw [if_pos rfl] at H; exact H
                            clear H
                            have H := H1
                            clear H1
                            simp only [Option.some.injEq, Prod.mk.injEq] at H
                            obtain ⟨rfl, rfl, rfl⟩ := H
                            obtain ⟨ASz19_0, cSz19_0, HGz19, hgz19, HSz19_0⟩ := HI0.out
                            have hcz19_0 := cellS71_0 HGz19
                            have hcz19_1 := cellS71_1 HGz19
                            have hcz19_2 := cellS71_2 HGz19
                            have hfz19_1 := blk_frozen HGz19 1
                            have hfz19_2 := blk_frozen HGz19 2
                            clear HGz19 hgz19
                            go_wp2
                            repeat (go_quiet (fail); try go_wp2)
                            go_ret
                            exact ⟨by first | rfl | (simp [errW_none, errW_some] <;> rfl) | (simp only [← hji7]; first | rfl | (simp [errW_none, errW_some] <;> rfl)) | (simp [*, errW_none, errW_some] <;> rfl), by (try simp only [hji7]); repeat (first | (with_reducible first | exact HI0.out | apply IsS140.alloc | apply IsS140.drewN | apply IsS140.drew | apply IsS140.set_1 | apply IsS140.set_2) | exact HI0.out), by repeat (first | (with_reducible first | exact HB.out | apply below_alloc | apply pw_below_drewN | apply below_drew1 | refine below_set ?_ (IsS140.ge HI0.out)) | exact HB.out), by repeat (first | (with_reducible first | exact HK.out | apply KeepBut.set_ | apply keep_drewN | apply keep_drew | apply keep_alloc) | exact HK.out)⟩
                          · replace c18 := Bool.eq_false_iff.mpr c18
                            subst c18
                            have H1 : (if (rd s0_0 (ji7)) < 128 then (some (IntKind.u64.wrap (x3_1 + (IntKind.u64.wrap ((IntKind.u64.wrap (Int.tmod (rd s0_0 (ji7)) 128)) * x4_1))), wrap64 ((wrap64 (x1001_1 + x13_1)) + 1), x1002_1)) else (towlineref01_Reader_Number.l0 kj15 (IntKind.u64.wrap (x3_1 + (IntKind.u64.wrap ((IntKind.u64.wrap (Int.tmod (rd s0_0 (ji7)) 128)) * x4_1)))) (IntKind.u64.wrap (x4_1 * 128)) (wrap64 (x13_1 + 1)) s0_0 x1001_1 x1002_1)) = some (r1, r2, r3) := by rw [if_neg (show ¬ (false = true) by decide)] at H; exact H
                            clear H
                            have H := H1
                            clear H1
                            by_cases c20 : (rd s0_0 (ji7)) < 128
                            · rw [if_pos c20] at H
                              have c20b0 : decide ((rd s0_0 (ji7)) < 128) = true := decide_eq_true c20
                              clear c20
                              simp only [Option.some.injEq, Prod.mk.injEq] at H
                              obtain ⟨rfl, rfl, rfl⟩ := H
                              obtain ⟨ASz21_0, cSz21_0, HGz21, hgz21, HSz21_0⟩ := HI0.out
                              have hcz21_0 := cellS71_0 HGz21
                              have hcz21_1 := cellS71_1 HGz21
                              have hcz21_2 := cellS71_2 HGz21
                              have hfz21_1 := blk_frozen HGz21 1
                              have hfz21_2 := blk_frozen HGz21 2
                              clear HGz21 hgz21
                              go_wp2
                              repeat (go_quiet (fail); try go_wp2)
                              go_ret
                              exact ⟨by first | rfl | (simp [errW_none, errW_some] <;> rfl) | (simp only [← hji7]; first | rfl | (simp [errW_none, errW_some] <;> rfl)) | (simp [*, errW_none, errW_some] <;> rfl), by (try simp only [hji7]); repeat (first | (with_reducible first | exact HI0.out | apply IsS140.alloc | apply IsS140.drewN | apply IsS140.drew | apply IsS140.set_1 | apply IsS140.set_2) | exact HI0.out), by repeat (first | (with_reducible first | exact HB.out | apply below_alloc | apply pw_below_drewN | apply below_drew1 | refine below_set ?_ (IsS140.ge HI0.out)) | exact HB.out), by repeat (first | (with_reducible first | exact HK.out | apply KeepBut.set_ | apply keep_drewN | apply keep_drew | apply keep_alloc) | exact HK.out)⟩
                            · rw [if_neg c20] at H
                              have c20b0 : decide ((rd s0_0 (ji7)) < 128) = false := decide_eq_false c20
                              clear c20
                              have H' := Aside0.mk H
                              clear H
                              go_wp2
                              repeat (go_quiet (fail); try go_wp2)
                              go_roundg kj15
                              case measure => have := HK1.out; have := HJ9.out; have := HJ15.out; omega
                              case rel => exact ⟨(IntKind.u64.wrap (x3_1 + (IntKind.u64.wrap ((IntKind.u64.wrap (Int.tmod (rd s0_0 (ji7)) 128)) * x4_1)))), (IntKind.u64.wrap (x4_1 * 128)), (wrap64 (x13_1 + 1)), (x1001_1), (x1002_1), (by first | rfl | (simp; done) | (simp only [← hji7] <;> (first | rfl | simp)) | (simp [*]; done)), (by first | rfl | (simp; done) | (simp [*]; done)), (by first | rfl | (simp; done) | (simp [*]; done)), H', ⟨by have := HK1.out; have := HJ9.out; have := HJ15.out; omega⟩, ⟨by (try simp only [hji7]); repeat (first | (with_reducible first | exact HI0.out | apply IsS140.alloc | apply IsS140.drewN | apply IsS140.drew | apply IsS140.set_1 | apply IsS140.set_2) | exact HI0.out)⟩, ⟨by repeat (first | (with_reducible first | exact HK.out | apply KeepBut.set_ | apply keep_drewN | apply keep_drew | apply keep_alloc) | exact HK.out)⟩, ⟨by repeat (first | (with_reducible first | exact HB.out | apply below_alloc | apply pw_below_drewN | apply below_drew1 | refine below_set ?_ (IsS140.ge HI0.out)) | exact HB.out)⟩⟩
              · rw [if_neg c9] at H
                exact absurd H (by simp)
            · rw [if_neg c8] at H
              exact absurd H (by simp)
        · rw [if_neg c4] at H
          have c4b0 : decide (x13_1 < 11) = false := decide_eq_false c4
          clear c4
          simp only [Option.some.injEq, Prod.mk.injEq] at H
          obtain ⟨rfl, rfl, rfl⟩ := H
          go_wp2
          repeat (go_quiet (fail); try go_wp2)
          go_ret
          exact ⟨by first | rfl | (simp [errW_none, errW_some] <;> rfl) | (simp [*, errW_none, errW_some] <;> rfl), by repeat (first | (with_reducible first | exact HI0.out | apply IsS140.alloc | apply IsS140.drewN | apply IsS140.drew | apply IsS140.set_1 | apply IsS140.set_2) | exact HI0.out), by repeat (first | (with_reducible first | exact HB.out | apply below_alloc | apply pw_below_drewN | apply below_drew1 | refine below_set ?_ (IsS140.ge HI0.out)) | exact HB.out), by repeat (first | (with_reducible first | exact HK.out | apply KeepBut.set_ | apply keep_drewN | apply keep_drew | apply keep_alloc) | exact HK.out)⟩
  · rw [if_neg c2] at H
    have c2b0 : (s0_2 == 0) = false := beq_eq_false_iff_ne.mpr c2
    have c2b1 : (s0_2 != 0) = true := bne_iff_ne.mpr c2
    simp only [Option.some.injEq, Prod.mk.injEq] at H
    obtain ⟨rfl, rfl, rfl⟩ := H
    obtain ⟨ASz22_0, cSz22_0, HGz22, hgz22, HSz22_0⟩ := HI0.out
    have hcz22_0 := cellS71_0 HGz22
    have hcz22_1 := cellS71_1 HGz22
    have hcz22_2 := cellS71_2 HGz22
    have hfz22_1 := blk_frozen HGz22 1
    have hfz22_2 := blk_frozen HGz22 2
    clear HGz22 hgz22
    go_enter Try.func98, Try.ntmps98
    go_wp2
    repeat (go_quiet (fail); try go_wp2)
    go_ret
    exact ⟨by first | rfl | (simp [errW_none, errW_some] <;> rfl) | (simp [*, errW_none, errW_some] <;> rfl), by repeat (first | (with_reducible first | exact HI0.out | apply IsS140.alloc | apply IsS140.drewN | apply IsS140.drew | apply IsS140.set_1 | apply IsS140.set_2) | exact HI0.out), by repeat (first | (with_reducible first | exact HB.out | apply below_alloc | apply pw_below_drewN | apply below_drew1 | refine below_set ?_ (IsS140.ge HI0.out)) | exact HB.out), by repeat (first | (with_reducible first | exact HK.out | apply KeepBut.set_ | apply keep_drewN | apply keep_drew | apply keep_alloc) | exact HK.out)⟩
end Go.Proofs.Ytehjbhnlbjbhfaa.WBase
