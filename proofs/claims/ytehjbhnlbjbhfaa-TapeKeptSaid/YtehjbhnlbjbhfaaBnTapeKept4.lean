/- Texts that the row of LawTapeKept rests on, part 4 of 12: contracts of the functions, their walks, plain laws. -/
import Derived.Test.YtehjbhnlbjbhfaaBnTapeKept3
import Derived.Test.YtehjbhnlbjbhfaaProg
import Derived.ArgAppend
import Derived.Laws.BitsLemmas
import Derived.Laws.Rows
import Derived.WalkKit
import Derived.KernelRfl
import Derived.RowKit3
import Derived.Deep.LoopGhost
import Derived.Deep.QuietTactic
import Derived.BigQuiet
import Derived.WideLaws
import Derived.Outline
import Derived.Laws.Bits64b
-- PutT
namespace Go.Proofs.Ytehjbhnlbjbhfaa.Wire
open Go Go.RowKit Go.Proofs.YtehjbhnlbjbhfaaW.PrintWords Go.Proofs.YtehjbhnlbjbhfaaW.PrintLast Go.Proofs.YtehjbhnlbjbhfaaW.PrintMore
set_option linter.unusedVariables false
theorem info5 : (Try.prog.info? 5).map (fun i => (i.zero, i.size, i.bytes)) = some (some (.int .u8 0), 1, 1) := by kernel_rfl
def enc : Nat → Nat → List Int
  | 0, n => [(n : Int)]
  | f + 1, n => if n < 128 then [(n : Int)] else (128 + n % 128 : Int) :: enc f (n / 128)
theorem enc_ne (f n : Nat) : enc f n ≠ [] := by
  cases f with
  | zero => simp [enc]
  | succ f => unfold enc; split <;> simp
theorem enc_len (f : Nat) : ∀ n, (enc f n).length ≤ f + 1 := by
  induction f with
  | zero => intro n; simp [enc]
  | succ f ih => intro n; unfold enc; split
                 · simp
                 · have := ih (n / 128); simp; omega
def encs (l : List Int) : List Int := l.flatMap fun n => enc 9 n.toNat
theorem encs_len (l : List Int) : (encs l).length ≤ 10 * l.length := by
  induction l with
  | nil => simp [encs]
  | cons a l ih =>
    have := enc_len 9 a.toNat
    unfold encs at *
    rw [List.flatMap_cons, List.length_append, List.length_cons]; omega
theorem encs_snoc (l : List Int) (a : Int) : encs (l ++ [a]) = encs l ++ enc 9 a.toNat := by unfold encs; rw [List.flatMap_append]; simp
theorem encs_take (l : List Int) (j : Nat) (h : j < l.length) : encs (l.take (j + 1)) = encs (l.take j) ++ enc 9 (rd l j).toNat := by
  rw [List.take_succ_eq_append_getElem h, encs_snoc]
  have : l[j] = rd l (j : Int) := by unfold rd; rw [Int.toNat_natCast, List.getD_eq_getElem?_getD, List.getElem?_eq_getElem h]; rfl
  rw [this]
theorem encs_nil {l : List Int} (h : encs l = []) : l = [] := by
  cases l with
  | nil => rfl
  | cons a l =>
    unfold encs at h
    rw [List.flatMap_cons] at h
    exact absurd (List.append_eq_nil_iff.1 h).1 (enc_ne _ _)
theorem or128 : ∀ a : Nat, a < 256 → Go.bits .or .u8 (a : Int) 128 = ((128 + a % 128 : Nat) : Int) := by decide +kernel
def OnO (A : Option Addr) (l : List Int) (W : World) (base : Nat) (v : Value) (xs : List Int) : Prop :=
  (v = .slice A l.length l.length ∧ xs = l ∧ Kd.C (Kd.int .u8) W A l.length l ∧ (A = none → l = [])) ∨ Kd.R (Kd.int .u8) 5 W base (fun _ => True) v xs
theorem OnO.slice {A : Option Addr} {l : List Int} {W : World} {base : Nat} {v : Value} {xs : List Int} (h : OnO A l W base v xs) : ∃ A' c, v = .slice A' xs.length c := by
  rcases h with ⟨rfl, rfl, _, _⟩ | h
  · exact ⟨_, _, rfl⟩
  · exact Kd.R_slice h
theorem append_on {ops : Array Oper} {rest : List Oper} {o : Oper} {a : Act} {Q : Exit → Act → World → Prop} {w0 W : World} (base : Nat) (hgd : o.guard = none) (s x : Operand)
    (ho : o.op = .call { callee := .builtin .append, args := #[s, x], argTypes := #[32, 32] }) (A : Option Addr) (l : List Int) (v : Value) (xs : List Int) (p : Int) (hs : a.eval s = v) (hx : a.eval x = .slice (some ⟨W.heap.size, 0, none⟩) 1 1)
    (HO : OnO A l W base v xs) (HB : Below base w0 W) (hbase : base ≤ W.heap.size) (hl : xs.length + 1 ≤ 140737488355328)
    (h : ∀ v1 w1, Kd.R (Kd.int .u8) 5 w1 base (fun _ => True) v1 (xs ++ [p]) → Below base w0 w1 → wpList Try.prog ops Q rest (a.put o.dst v1) w1) :
    wpList Try.prog ops Q (o :: rest) a (W.alloc (.cells #[.int .u8 p] 5)) := by
  rcases HO with ⟨rfl, rfl, hC, hn⟩ | HR
  · obtain ⟨i0, hi, hz0, hz1, hz2⟩ := info_parts info5
    have hsz : (W.alloc (.cells #[.int .u8 p] 5)).heap.size = W.heap.size + 1 := by simp
    have hb1 := HB.alloc hbase (.cells #[.int .u8 p] 5)
    refine wpList_append_grows (W.alloc (.cells #[.int .u8 p] 5)) hgd s x 32 ho 5 i0 (.int .u8 0) 1 1 Try.underlying32 hi hz0 hz1 hz2 rfl (by decide) A xs.length xs.length (nums .u8 xs) hs (fun e => by rw [hn e]; exact ⟨rfl, rfl⟩) (by simp [nums]) ?_ ⟨W.heap.size, 0, none⟩ 1 1 [.int .u8 p] hx rfl ?_ (by simp [Value.oneCell']) (by omega) (by unfold maxLen; omega) (by omega) ?_
    · intro b e j u hj
      subst e
      have hlt : j < xs.length := by have := (List.getElem?_eq_some_iff.1 hj).1; simpa [nums] using this
      obtain ⟨ad, e2, hc⟩ := Kd.at_int hC (j : Int) (by omega) (by omega)
      cases e2
      rw [Int.toNat_natCast] at hc
      have hu : u = .int .u8 (rd xs (j : Int)) := by
        simp only [nums, List.getElem?_map, List.getElem?_eq_getElem hlt, Option.map_some, Option.some.injEq] at hj
        rw [← hj]; unfold rd; rw [Int.toNat_natCast, List.getD_eq_getElem?_getD, List.getElem?_eq_getElem hlt]; rfl
      rw [hu]
      exact (World.cell?_alloc_lt _ _ _ (World.block_lt_of_cell? W _ hc)).trans hc
    · intro j u hj
      have : j = 0 := by have := (List.getElem?_eq_some_iff.1 hj).1; simp at this; omega
      subst this
      simp at hj
      subst hj
      rw [add_plain]
      simp
    · intro v1 w1 hown hg
      refine h v1 w1 (Kd.R_of_own (enc := Value.int .u8) (h1 := fun _ => rfl) ?_ (fun _ _ => trivial)) (hb1.grown hg (by omega) (fun k hk => by cases hk))
      have := own_weaken hown (base' := base) (by omega)
      show w1.ownsRow base 5 1 v1 (xs ++ [p]).length (Go.Proofs.YtehjbhnlbjbhfaaW.PrintWords.encs (Value.int .u8) (xs ++ [p]))
      rw [List.length_append]
      simpa [nums, Go.Proofs.YtehjbhnlbjbhfaaW.PrintWords.encs] using this
  · refine Kd.R_append (Kd.int .u8) (w0 := w0) base hgd s x 32 5 (.int .u8 0) 1 ho Try.underlying32 info5 rfl (by decide) (by omega) v xs p [.int .u8 p] (fun _ => True) (fun _ => False) hs hx rfl (fun _ hk => hk.elim) (fun _ _ => trivial) HR HB hbase (by omega) ?_
    intro v1 w1 h1 h2 _ _
    exact h v1 w1 h1 h2
set_option maxHeartbeats 2000000 in
set_option maxRecDepth 100000 in
theorem Put_any (A0 : Option Addr) (c0 : Nat) (l0 : List Int) (A1 : Option Addr) (c1 : Nat) (l1 : List Int) (w : World) (hr0 : Kd.C (Kd.int .u8) w A0 l0.length l0) (hc0 : l0.length ≤ c0) (hr1 : Kd.C (Kd.int .u64) w A1 l1.length l1) (hc1 : l1.length ≤ c1)
    (hn : A0 = none → l0 = []) (hb1 : ∀ x ∈ l1, 0 ≤ x ∧ x < 18446744073709551616) (hlen : l0.length + 10 * l1.length < 140737488355328) :
    Calls Try.prog 77 #[.slice A0 l0.length c0, .slice A1 l1.length c1] w fun e w' => ∃ v, e = .returned v ∧ OnO A0 l0 w' w.heap.size v (l0 ++ encs l1) ∧ Below w.heap.size w w' := by
  have HR0 := Aside0.mk hr0
  have HC0 := Aside0.mk hc0
  have HR1 := Aside0.mk hr1
  have HC1 := Aside0.mk hc1
  have HN := Aside0.mk hn
  have HB1 := Aside0.mk hb1
  clear hr0 hr1 hc1 hn hb1
  have hm1 := HR1.out.2.1
  go_enter Try.func77, Try.ntmps77
  go_wp2
  go_loopw [0, 15] (fun v0 v15 wr => ∃ j : Nat, j ≤ l1.length ∧ v15 = .int .i64 (j : Int) ∧ Aside0 (OnO A0 l0 wr w.heap.size v0 (l0 ++ encs (l1.take j))) ∧ Aside0 (Below w.heap.size w wr)) (fun _ v15 _ => (l1.length - intOf v15).toNat)
  case atStart => exact ⟨0, by omega, rfl, ⟨.inl ⟨rfl, by simp [encs], HR0.out, HN.out⟩⟩, ⟨Below.refl _ _⟩⟩
  case round =>
    obtain ⟨j, hj, rfl, HO, HB⟩ := hrel
    by_cases hlt : j < l1.length
    · obtain ⟨ad, e0, hx⟩ := Kd.at_int HR1.out (j : Int) (by omega) (by omega)
      cases e0
      replace hx := (HB.out.cell (World.block_lt_of_cell? w _ hx)).trans hx
      rw [Int.toNat_natCast] at hx
      have hmem : rd l1 (j : Int) ∈ l1 := by unfold rd; rw [Int.toNat_natCast, List.getD_eq_getElem?_getD, List.getElem?_eq_getElem hlt]; exact List.getElem_mem hlt
      obtain ⟨hp0, hp1⟩ := HB1.out _ hmem
      have HT := Aside0.mk (encs_take l1 j hlt)
      have HTL := Aside0.mk (encs_len (l1.take j))
      have htl : (l1.take j).length ≤ j := List.length_take_le _ _
      clear hmem
      generalize rd l1 (j : Int) = y at *
      obtain ⟨n, rfl⟩ := Int.eq_ofNat_of_zero_le hp0
      rw [Int.toNat_natCast] at HT
      obtain ⟨wo, rfl⟩ : ∃ wo : World, wo = wr := ⟨_, rfl⟩
      go_wp2
      go_loopw [0, 6] (fun v0 v6 wr => ∃ (f m : Nat) (acc : List Int), v6 = .int .u64 (m : Int) ∧ m < 18446744073709551616 ∧ Aside0 (m < 128 ^ (f + 1) ∧ acc.length + (enc f m).length ≤ l0.length + 10 * l1.length ∧ acc ++ enc f m = l0 ++ encs (l1.take (j + 1))) ∧ Aside0 (OnO A0 l0 wr w.heap.size v0 acc) ∧ Aside0 (Below w.heap.size w wr)) (fun _ v6 _ => (intOf v6).toNat)
      case atStart => exact ⟨9, n, l0 ++ encs (l1.take j), rfl, by omega, ⟨by omega, by have h1 := HTL.out; have h2 := enc_len 9 n; rw [List.length_append]; omega, by rw [HT.out, List.append_assoc]⟩, HO, HB⟩
      case round =>
        obtain ⟨f, m, acc, rfl, hm, HF, HO, HB⟩ := hrel
        have HM := Aside0.mk hm
        clear hm
        have HLEN := Aside0.mk (show acc.length + 1 ≤ 140737488355328 by have h1 := HF.out.2.1; have h2 := List.length_pos_iff.2 (enc_ne f m); omega)
        have HJ := Aside0.mk hj
        have HLT := Aside0.mk hlt
        have HL1 := Aside0.mk hm1
        clear hp0 hp1 hx htl hlt hj hm1 hlen hc0
        by_cases hge : m < 128
        · have d1 : decide ((128 : Int) ≤ (m : Int)) = false := decide_eq_false (by omega)
          have HGE := Aside0.mk hge
          clear hge
          go_wp2_with (first | ((with_reducible refine gate_builtin (b := .append) (xs := #[.tmp 29, .tmp 32]) rfl ?_); at_builtin; refine append_on w.heap.size rfl (.tmp 29) (.tmp 32) rfl A0 l0 _ acc _ rfl rfl HO.out HB.out ?hb ?hl ?_; (case hb => exact HB.out.size); (case hl => exact HLEN.out); intro v1 w1 h1 h2; have HO1 := Aside0.mk h1; have HB1 := Aside0.mk h2; clear h1 h2))
          have hw : wrap64 ((j : Int) + 1) = ((j + 1 : Nat) : Int) := by
            have := HLT.out; have := HL1.out
            unfold wrap64; omega
          rw [hw]
          refine ⟨⟨j + 1, HLT.out, rfl, ⟨.inr ?_⟩, HB1⟩, ?_⟩
          · have h3 := HO1.out
            have h4 := HF.out.2.2
            have h5 : enc f m = [((m : Int)) % 256] := by
              have := HGE.out
              rw [show (m : Int) % 256 = m by omega]
              cases f with
              | zero => rfl
              | succ f => unfold enc; rw [if_pos this]
            rw [h5] at h4
            rw [← h4]; exact h3
          · simp only [intOf]; have := HLT.out; omega
        · have d1 : decide ((128 : Int) ≤ (m : Int)) = true := decide_eq_true (by omega)
          have HGE := Aside0.mk hge
          clear hge
          go_wp2_with (first | ((with_reducible refine gate_builtin (b := .append) (xs := #[.tmp 21, .tmp 25]) rfl ?_); at_builtin; refine append_on w.heap.size rfl (.tmp 21) (.tmp 25) rfl A0 l0 _ acc _ rfl rfl HO.out HB.out ?hb ?hl ?_; (case hb => exact HB.out.size); (case hl => exact HLEN.out); intro v1 w1 h1 h2; have HO1 := Aside0.mk h1; have HB1 := Aside0.mk h2; clear h1 h2))
          obtain ⟨f, rfl⟩ : ∃ f', f = f' + 1 := by
            cases f with
            | zero => exact absurd HF.out.1 (by have := HGE.out; omega)
            | succ f' => exact ⟨f', rfl⟩
          have h5 : enc (f + 1) m = (128 + (m : Int) % 128) :: enc f (m / 128) := by
            have := HGE.out
            show (if m < 128 then _ else _) = _
            rw [if_neg this]
          have h6 : Go.bits .or .u8 ((m : Int) % 256) 128 = 128 + (m : Int) % 128 := by
            have h := or128 (m % 256) (Nat.mod_lt _ (by decide))
            rw [show ((m % 256 : Nat) : Int) = (m : Int) % 256 by omega] at h
            rw [h]; omega
          have h4 := HF.out
          rw [h5] at h4
          refine ⟨⟨f, m / 128, acc ++ [128 + (m : Int) % 128], by rw [show ((m / 128 : Nat) : Int) = (m : Int) / 128 by omega], ?_, ⟨?_, ?_, ?_⟩, ⟨.inr ?_⟩, HB1⟩, ?_⟩
          · have := HM.out; omega
          · have h7 := h4.1
            rw [Nat.pow_succ] at h7
            exact (Nat.div_lt_iff_lt_mul (by decide)).2 h7
          · have h7 := h4.2.1
            simp only [List.length_append, List.length_cons, List.length_nil] at h7 ⊢; omega
          · have h7 := h4.2.2
            rw [List.append_assoc]; exact h7
          · have h3 := HO1.out
            rw [h6] at h3; exact h3
          · simp only [intOf]; have := HGE.out; omega
    · have HT := Aside0.mk (show l1.take j = l1 from List.take_of_length_le (by omega))
      rw [HT.out] at HO
      go_wp2
      go_ret
      exact ⟨_, rfl, HO.out, HB.out⟩
end Go.Proofs.Ytehjbhnlbjbhfaa.Wire
-- Read
namespace Go.Proofs.Ytehjbhnlbjbhfaa.Wire
open Go Go.RowKit Go.Proofs.YtehjbhnlbjbhfaaW.PrintWords Go.Proofs.YtehjbhnlbjbhfaaW.PrintLast Go.Proofs.YtehjbhnlbjbhfaaW.PrintMore
open Go.Proofs.Ytehjbhnlbjbhfaa.WBase (IsS146 IsS146.new)
set_option linter.unusedVariables false
theorem Read_calls (A0 : Option Addr) (c0 : Nat) (l0 : List Int) (w : World) (hr0 : Kd.C (Kd.int .u8) w A0 l0.length l0) (hc0 : l0.length ≤ c0) (hlen : l0.length < 140737488355328) :
    Calls Try.prog 79 #[.slice A0 l0.length c0] w fun e w' => ∃ w1 g, e = .returned (.pointer (some ⟨g, 0, none⟩)) ∧ IsS146 w1 w' g l0 0 0 true ∧ Below w.heap.size w w1 ∧ Below w1.heap.size w1 w' := by
  have HR0 := Aside0.mk hr0
  have HC0 := Aside0.mk hc0
  have LM := Aside0.mk hlen
  clear hr0 hc0 hlen
  have HB := Aside0.mk (Below.refl w.heap.size w)
  obtain ⟨y1, Ny1⟩ : ∃ y_ : List Int, Aside0 (y_ = ([] : List Int)) := ⟨_, ⟨rfl⟩⟩
  have LM2 := Aside0.mk (show y1.length + l0.length < 140737488355328 by have := LM.out; rw [Ny1.out]; simpa using this)
  have Ny2 := Aside0.mk (show l0 = y1 ++ l0 by rw [Ny1.out]; rfl)
  go_enter Try.func79, Try.ntmps79
  go_wp2_with (first | ((with_reducible refine gate_dst (N := 3) rfl ?_); refine Kd.R_lit (Kd.int .u8) _ 5 ?hg (N := 3) ?hd (xs := ([] : List Int)) (inner := []) (ok := fun _ => True) (okp := fun _ => True) ?hr ?hp (fun _ hk => hk) trivial (Below.refl _ _) (Nat.le_refl _) (by simp) ?_; (case hd => rfl); (case hg => rfl); (case hr => first | (go_simp; done) | (go_simp; rfl)); (case hp => exact (Reps.none _ _)); intro va w4 ho5 hb hg_ hnew_; clear hg_ hnew_; (first | rw [← Ny1.out] at ho5 | (simp only [Int.reduceToNat] at ho5; rw [← Ny1.out] at ho5)); have n0_ := Aside0.mk (Kd.R_lower ho5 (below_size (HB.out))); have n1_ := Aside0.mk (below_step (HB.out) hb); clear HB; have HOa := n0_; have HB := n1_; clear n0_ n1_; clear hb ho5) | ((with_reducible refine gate_builtin (b := .append) (xs := #[.tmp 3, .tmp 4]) rfl ?_); at_builtin; refine Kd.R_append_rows (Kd.int .u8) (w0 := w) w.heap.size rfl (.tmp 3) (.tmp 4) 32 5 (.int .u8 0) 1 rfl Try.underlying32 info5 rfl (by decide) (by omega) va y1 l0 _ _ _ (fun _ => True) (fun _ => False) rfl rfl ?aO ?aR (fun _ _ h => h) (fun _ h => h.elim) ?aF ?aB ?aS ?aL ?_; (case aR => exact (Kd.C_below HR0.out HB.out)); (case aB => exact HB.out); (case aF => exact (fun _ _ => trivial)); (case aO => exact HOa.out); (case aS => exact (below_size (HB.out))); (case aL => have := LM2.out; omega); intro vb w6 ho hb hg hat; rw [← Ny2.out] at ho; have n0_ := Aside0.mk (hb); have n1_ := Aside0.mk (ho); clear HB; clear HOa; have HB := n0_; have HOa := n1_; clear n0_ n1_; clear ho hb hg hat; obtain ⟨Ao7, co7, eo7⟩ := Kd.R_slice HOa.out; subst eo7))
  go_ret
  exact ⟨w6, _, rfl, IsS146.new w6 w6 _ _ l0 0 0 true (Below.refl _ _) ⟨(Kd.R_reads' HOa.out).2.2, (Kd.R_reads' HOa.out).2.1⟩, HB.out, below_alloc (Below.refl _ _) _⟩
end Go.Proofs.Ytehjbhnlbjbhfaa.Wire
-- WRef
namespace Go.Proofs.Ytehjbhnlbjbhfaa.WBase
open Go.RowKit Go.Proofs.YtehjbhnlbjbhfaaW.PrintWords Go.Proofs.YtehjbhnlbjbhfaaW.PrintLast Go.Proofs.YtehjbhnlbjbhfaaW.PrintMore
attribute [local go_sem] max2_int min2_int max_two min_two
set_option linter.unusedVariables false
set_option linter.unusedSimpArgs false
end Go.Proofs.Ytehjbhnlbjbhfaa.WBase
-- PlainN
namespace Go.Proofs.Ytehjbhnlbjbhfaa.Wire
open Go Go.RowKit Go.Proofs.YtehjbhnlbjbhfaaW.PrintWords Go.Proofs.YtehjbhnlbjbhfaaW.PrintLast Go.Proofs.YtehjbhnlbjbhfaaW.PrintMore
open Go.Proofs.Ytehjbhnlbjbhfaa.WBase
set_option linter.unusedVariables false
def Bs (l : List Int) : Prop := ∀ x ∈ l, 0 ≤ x ∧ x < 256
def numGo (i n : Nat) : List Int → Nat × Nat × Int
  | [] => (0, 0, 2)
  | x :: r => if i = 10 ∨ (i = 9 ∧ 1 < x.toNat % 128) then (0, 0, 5) else if x = 0 ∧ 0 < i then (0, 0, 10) else if x < 128 then (n + x.toNat % 128 * 128 ^ i, i + 1, 0) else numGo (i + 1) (n + x.toNat % 128 * 128 ^ i) r
def num (l : List Int) : Nat × Nat × Int := numGo 0 0 l
theorem and127 : ∀ a : Nat, a < 256 → Go.bits .and .u8 (a : Int) 127 = ((a % 128 : Nat) : Int) := by decide +kernel
theorem wrap_u64' (n : Int) : IntKind.u64.wrap n = n % 18446744073709551616 := by simp [IntKind.wrap, IntKind.bits, IntKind.signed]
theorem wrap_nat {m : Nat} (h : m < 18446744073709551616) : IntKind.u64.wrap (m : Int) = (m : Int) := by rw [wrap_u64']; omega
theorem or_shift (n low i : Nat) (hn : n < 128 ^ i) (hi : i ≤ 9) (hl : low < 128) (h9 : i = 9 → low ≤ 1) :
    Go.bits .or .u64 (n : Int) (shl .u64 (low : Int) ((7 * i : Nat) : Int)) = ((n + low * 128 ^ i : Nat) : Int) := by
  have e : (128 : Nat) ^ i = 2 ^ (7 * i) := by rw [Nat.pow_mul]
  have hlt : low * 128 ^ i < 18446744073709551616 := by
    rcases Nat.lt_or_ge i 9 with h | h
    · have : (128 : Nat) ^ i ≤ 128 ^ 8 := Nat.pow_le_pow_right (by decide) (by omega)
      calc low * 128 ^ i ≤ 127 * 128 ^ 8 := Nat.mul_le_mul (by omega) this
        _ < 18446744073709551616 := by decide
    · have : i = 9 := by omega
      subst this
      have := h9 rfl
      calc low * 128 ^ 9 ≤ 1 * 128 ^ 9 := Nat.mul_le_mul this (Nat.le_refl _)
        _ < 18446744073709551616 := by decide
  have hnl : n < 18446744073709551616 := by
    have : (128 : Nat) ^ i ≤ 128 ^ 9 := Nat.pow_le_pow_right (by decide) hi
    have : (128 : Nat) ^ 9 < 18446744073709551616 := by decide
    omega
  have hs : shl .u64 (low : Int) ((7 * i : Nat) : Int) = ((low * 128 ^ i : Nat) : Int) := by
    unfold shl
    rw [show min (((7 * i : Nat) : Int)).toNat IntKind.u64.bits = 7 * i by rw [Int.toNat_natCast]; exact Nat.min_eq_left (show 7 * i ≤ 64 by omega)]
    rw [show (2 : Int) ^ (7 * i) = ((128 ^ i : Nat) : Int) by rw [e, Int.natCast_pow]; rfl, ← Int.natCast_mul, wrap_nat hlt]
  rw [hs, bits_or_u64_nat n _ hnl hlt]
  congr 1
  rw [e] at hn ⊢
  have h := Nat.shiftLeft_add_eq_or_of_lt hn low
  rw [Nat.shiftLeft_eq] at h
  rw [Nat.or_comm, ← h, Nat.add_comm]
theorem rd_drop {s : List Int} {j : Nat} {x : Int} {r : List Int} (h : s.drop j = x :: r) : rd s (j : Int) = x ∧ j < s.length ∧ x ∈ s ∧ s.drop (j + 1) = r := by
  have hj : j < s.length := by
    rcases Nat.lt_or_ge j s.length with h1 | h1
    · exact h1
    · rw [List.drop_eq_nil_of_le h1] at h; cases h
  rw [List.drop_eq_getElem_cons hj] at h
  injection h with h1 h2
  refine ⟨?_, hj, h1 ▸ List.getElem_mem hj, h2⟩
  unfold rd
  rw [Int.toNat_natCast, List.getD_eq_getElem?_getD, List.getElem?_eq_getElem hj]; exact h1
def res (was : Nat) (q : Nat × Nat × Int) : Option (Int × Int × Int × Bool) := some (if q.2.2 = 0 then ((q.1 : Int), ((was + q.2.1 : Nat) : Int), 0, true) else (0, (was : Int), q.2.2, true))
theorem num_long {i n : Nat} {x : Int} {r : List Int} (c : i = 10 ∨ (i = 9 ∧ 1 < x.toNat % 128)) : numGo i n (x :: r) = (0, 0, 5) := by unfold numGo; rw [if_pos c]
theorem num_form {i n : Nat} {x : Int} {r : List Int} (c : ¬ (i = 10 ∨ (i = 9 ∧ 1 < x.toNat % 128))) (d : x = 0 ∧ 0 < i) : numGo i n (x :: r) = (0, 0, 10) := by unfold numGo; rw [if_neg c, if_pos d]
theorem num_last {i n : Nat} {x : Int} {r : List Int} (c : ¬ (i = 10 ∨ (i = 9 ∧ 1 < x.toNat % 128))) (d : ¬ (x = 0 ∧ 0 < i)) (h : x < 128) : numGo i n (x :: r) = (n + x.toNat % 128 * 128 ^ i, i + 1, 0) := by unfold numGo; rw [if_neg c, if_neg d, if_pos h]
theorem num_more {i n : Nat} {x : Int} {r : List Int} (c : ¬ (i = 10 ∨ (i = 9 ∧ 1 < x.toNat % 128))) (d : ¬ (x = 0 ∧ 0 < i)) (h : ¬ x < 128) : numGo i n (x :: r) = numGo (i + 1) (n + x.toNat % 128 * 128 ^ i) r := by rw [numGo, if_neg c, if_neg d, if_neg h]
theorem w_l0_end {k : Nat} {n was sh at_ : Int} {s : List Int} (h : at_ = (s.length : Int)) : wire_Reader_Number.l0 (k + 1) n was sh s at_ 0 true = some (0, was, 2, true) := by
  simp only [wire_Reader_Number.l0]; rw [if_pos h]; rfl
theorem w_l0 {k : Nat} {n was sh at_ : Int} {s : List Int} (h0 : 0 ≤ at_) (h1 : at_ < (s.length : Int)) : wire_Reader_Number.l0 (k + 1) n was sh s at_ 0 true = wire_Reader_Number.j1 k n was sh (rd s at_) (IntKind.u64.wrap (Go.bits .and .u8 (rd s at_) 127)) (if sh = 63 then (if (IntKind.u64.wrap (Go.bits .and .u8 (rd s at_) 127)) > 1 then true else decide (sh > 63)) else decide (sh > 63)) s (wrap64 (at_ + 1)) 0 true := by
  simp only [wire_Reader_Number.l0]; rw [if_neg (by omega), if_pos h0, if_pos h1]
  split
  · split <;> rfl
  · rfl
theorem w_j1_t {k : Nat} {n was sh x low at_ : Int} {s : List Int} : wire_Reader_Number.j1 (k + 1) n was sh x low true s at_ 0 true = some (0, was, 5, true) := by
  simp only [wire_Reader_Number.j1]; rw [if_pos trivial]; rfl
theorem w_j1_f {k : Nat} {n was sh x low at_ : Int} {s : List Int} : wire_Reader_Number.j1 (k + 1) n was sh x low false s at_ 0 true = wire_Reader_Number.j2 k n was sh x low (if x = 0 then decide (sh > 0) else false) s at_ 0 true := by
  simp only [wire_Reader_Number.j1]; rw [if_neg (by decide)]
  split <;> rfl
theorem w_j2_t {k : Nat} {n was sh x low at_ : Int} {s : List Int} : wire_Reader_Number.j2 (k + 1) n was sh x low true s at_ 0 true = some (0, was, 10, true) := by
  simp only [wire_Reader_Number.j2]; rw [if_pos trivial]; rfl
theorem w_j2_f {k : Nat} {n was sh x low at_ : Int} {s : List Int} (h : 0 ≤ sh) : wire_Reader_Number.j2 (k + 1) n was sh x low false s at_ 0 true = if x < 128 then some (Go.bits .or .u64 n (shl .u64 low sh), at_, 0, true) else wire_Reader_Number.l0 k (Go.bits .or .u64 n (shl .u64 low sh)) was (wrap64 (sh + 7)) s at_ 0 true := by
  simp only [wire_Reader_Number.j2]; rw [if_neg (by decide), if_pos h]
theorem step_lt (n i b : Nat) (hn : n < 128 ^ i) : n + b % 128 * 128 ^ i < 128 ^ (i + 1) := by
  rw [Nat.pow_succ]
  have h1 : b % 128 < 128 := Nat.mod_lt _ (by decide)
  calc n + b % 128 * 128 ^ i < 128 ^ i + b % 128 * 128 ^ i := by omega
    _ = (1 + b % 128) * 128 ^ i := by rw [Nat.add_mul, Nat.one_mul]
    _ ≤ 128 * 128 ^ i := Nat.mul_le_mul_right _ (by omega)
    _ = 128 ^ i * 128 := Nat.mul_comm _ _
theorem number_l0 (s : List Int) (hs : Bs s) (hlen : s.length < 140737488355328) (was : Nat) : ∀ (r : List Int) (i n k : Nat), s.drop (was + i) = r → i ≤ 10 → n < 128 ^ i → was + i ≤ s.length → 3 * (12 - i) ≤ k →
    wire_Reader_Number.l0 k (n : Int) (was : Int) ((7 * i : Nat) : Int) s ((was + i : Nat) : Int) 0 true = res was (numGo i n r) := by
  intro r
  induction r with
  | nil =>
    intro i n k hd hi hn hle hk
    obtain ⟨k, rfl⟩ : ∃ k', k = k' + 1 := ⟨k - 1, by omega⟩
    rw [w_l0_end (by have := List.drop_eq_nil_iff.1 hd; omega)]
    rfl
  | cons x r ih =>
    intro i n k hd hi hn hle hk
    obtain ⟨k, rfl⟩ : ∃ k', k = k' + 3 := ⟨k - 3, by omega⟩
    obtain ⟨hx, hlt, hmem, hd2⟩ := rd_drop hd
    obtain ⟨hx0, hx1⟩ := hs x hmem
    obtain ⟨b, rfl⟩ := Int.eq_ofNat_of_zero_le hx0
    have h0 : (0 : Int) ≤ ((was + i : Nat) : Int) := by omega
    have h1 : ((was + i : Nat) : Int) < (s.length : Int) := by omega
    have hx := Aside0.mk hx
    have hlow := Aside0.mk (show IntKind.u64.wrap (Go.bits .and .u8 (b : Int) 127) = ((b % 128 : Nat) : Int) by
      rw [and127 b (by omega), wrap_u64']; omega)
    have hw := Aside0.mk (show wrap64 (((was + i : Nat) : Int) + 1) = ((was + (i + 1) : Nat) : Int) by unfold wrap64; omega)
    rw [w_l0 h0 h1, hx.out, hlow.out, hw.out]
    clear hlow hw hx
    have hb : (b : Int).toNat = b := Int.toNat_natCast b
    by_cases c : i = 10 ∨ (i = 9 ∧ 1 < (b : Int).toNat % 128)
    · rw [num_long c]
      rw [hb] at c
      have ht : (if ((7 * i : Nat) : Int) = 63 then (if ((b % 128 : Nat) : Int) > 1 then true else decide (((7 * i : Nat) : Int) > 63)) else decide (((7 * i : Nat) : Int) > 63)) = true := by
        split
        · rw [if_pos (by omega)]
        · exact decide_eq_true (by omega)
      rw [ht, w_j1_t]; rfl
    · have c' := c
      rw [hb] at c
      have ht : (if ((7 * i : Nat) : Int) = 63 then (if ((b % 128 : Nat) : Int) > 1 then true else decide (((7 * i : Nat) : Int) > 63)) else decide (((7 * i : Nat) : Int) > 63)) = false := by
        split
        · rw [if_neg (by omega)]; exact decide_eq_false (by omega)
        · exact decide_eq_false (by omega)
      rw [ht, w_j1_f]
      by_cases d : (b : Int) = 0 ∧ 0 < i
      · rw [num_form c' d]
        have ht2 : (if (b : Int) = 0 then decide (((7 * i : Nat) : Int) > 0) else false) = true := by
          rw [if_pos d.1]; exact decide_eq_true (by omega)
        rw [ht2, w_j2_t]; rfl
      · have ht2 : (if (b : Int) = 0 then decide (((7 * i : Nat) : Int) > 0) else false) = false := by
          split
          · exact decide_eq_false (by omega)
          · rfl
        rw [ht2, w_j2_f (by omega), or_shift n (b % 128) i hn (by omega) (Nat.mod_lt _ (by decide)) (by intro h9; omega)]
        by_cases c8 : (b : Int) < 128
        · rw [if_pos c8, num_last c' d c8, hb]; rfl
        · rw [if_neg c8, num_more c' d c8, hb, show wrap64 (((7 * i : Nat) : Int) + 7) = ((7 * (i + 1) : Nat) : Int) by unfold wrap64; omega]
          exact ih (i + 1) _ k hd2 (by omega) (step_lt n i b hn) (by omega) (by omega)
theorem Number_eq (s : List Int) (hs : Bs s) (hlen : s.length < 140737488355328) (at_ : Nat) (hat : at_ ≤ s.length) (k : Nat) (hk : 36 ≤ k) :
    wire_Reader_Number.f k s (at_ : Int) 0 true = res at_ (num (s.drop at_)) := by
  unfold wire_Reader_Number.f wire_Reader_Err.f
  simp only [if_true, Option.bind_some]
  exact number_l0 s hs hlen at_ (s.drop at_) 0 0 k rfl (by decide) (by decide) hat hk
end Go.Proofs.Ytehjbhnlbjbhfaa.Wire
-- ReadBytes
namespace Go.Proofs.Ytehjbhnlbjbhfaa.Wire
open Go Go.RowKit Go.Proofs.YtehjbhnlbjbhfaaW.PrintWords Go.Proofs.YtehjbhnlbjbhfaaW.PrintLast Go.Proofs.YtehjbhnlbjbhfaaW.PrintMore
open Go.Proofs.Ytehjbhnlbjbhfaa.WBase
attribute [local go_sem] max2_int min2_int max_two min_two
set_option linter.unusedVariables false
set_option linter.unusedSimpArgs false
theorem numGo_ok : ∀ (r : List Int) (i n : Nat), (numGo i n r).2.2 = 0 → (numGo i n r).2.1 ≤ i + r.length ∧ i < (numGo i n r).2.1 := by
  intro r
  induction r with
  | nil => intro i n h; simp [numGo] at h
  | cons x r ih =>
    intro i n
    unfold numGo
    split
    · intro h; simp at h
    · split
      · intro h; simp at h
      · split
        · intro h; simp
        · intro h
          obtain ⟨h1, h2⟩ := ih _ _ h
          simp only [List.length_cons]; omega
theorem numGo_lt : ∀ (r : List Int) (i n : Nat), i ≤ 10 → n < 128 ^ i → (numGo i n r).1 < 18446744073709551616 := by
  intro r
  induction r with
  | nil => intro i n hi hn; simp [numGo]
  | cons x r ih =>
    intro i n hi hn
    unfold numGo
    split
    · simp
    · rename_i c
      have hstep : n + x.toNat % 128 * 128 ^ i < 128 ^ (i + 1) := by
        rw [Nat.pow_succ]
        have h1 : x.toNat % 128 < 128 := Nat.mod_lt _ (by decide)
        calc n + x.toNat % 128 * 128 ^ i < 128 ^ i + x.toNat % 128 * 128 ^ i := by omega
          _ = (1 + x.toNat % 128) * 128 ^ i := by rw [Nat.add_mul, Nat.one_mul]
          _ ≤ 128 * 128 ^ i := Nat.mul_le_mul_right _ (by omega)
          _ = 128 ^ i * 128 := Nat.mul_comm _ _
      split
      · simp
      · split
        · rcases Nat.lt_or_ge i 9 with h | h
          · have : (128 : Nat) ^ (i + 1) ≤ 128 ^ 9 := Nat.pow_le_pow_right (by decide) (by omega)
            have : (128 : Nat) ^ 9 < 18446744073709551616 := by decide
            simp only; omega
          · have : i = 9 := by omega
            subst this
            have h1 : x.toNat % 128 ≤ 1 := by omega
            have : x.toNat % 128 * 128 ^ 9 ≤ 1 * 128 ^ 9 := Nat.mul_le_mul_right _ h1
            have : (128 : Nat) ^ 9 = 9223372036854775808 := by decide
            simp only; omega
        · exact ih _ _ (by omega) hstep
def bytesP (s : List Int) (at_ : Nat) (most : Int) : List Int × Nat × Int :=
  if (num (s.drop at_)).2.2 ≠ 0 then ([], at_, (num (s.drop at_)).2.2)
  else if (if most < 0 then 0 else most) < ((num (s.drop at_)).1 : Int) then ([], at_, 4)
  else if s.length < at_ + (num (s.drop at_)).2.1 + (num (s.drop at_)).1 then ([], at_, 2)
  else ((s.drop (at_ + (num (s.drop at_)).2.1)).take (num (s.drop at_)).1, at_ + (num (s.drop at_)).2.1 + (num (s.drop at_)).1, 0)
theorem wrap64_nat {m : Nat} (h : m < 9223372036854775808) : wrap64 (m : Int) = (m : Int) := by unfold wrap64; omega
theorem wrap64_sum {p n z : Nat} (h : p + n = z) (hz : z < 9223372036854775808) : wrap64 ((p : Int) + (n : Int)) = (z : Int) := by unfold wrap64; omega
theorem wrap64_dif {p n z : Nat} (h : p + n = z) (hz : z < 9223372036854775808) : wrap64 ((z : Int) - (n : Int)) = (p : Int) := by unfold wrap64; omega
theorem with_world {P : World → Prop} (S : World → Prop) {W : World} (h : S W) (k : ∀ w', S w' → P w') : P W := k W h
theorem cut_bytes {w0 : World} (A : Option Addr) (c : Nat) (s : List Int) (p n z : Nat) (hC : Kd.C (Kd.int .u8) w0 A s.length s) (hc : s.length ≤ c) (hz : p + n = z) (hle : z ≤ s.length) :
    ∃ A1 c1, (∀ W : World, (Instr.slice 32 (.slice A s.length c) (some (.int .i64 (p : Int))) (some (.int .i64 (z : Int))) none).run Try.prog W = .ok (.slice A1 ((s.drop p).take n).length c1) W) ∧ Kd.C (Kd.int .u8) w0 A1 ((s.drop p).take n).length ((s.drop p).take n) ∧ ((s.drop p).take n).length ≤ c1 := by
  obtain ⟨i0, hi, hz0, hz1, hz2⟩ := info_parts info5
  have hl : ((s.drop p).take n).length = n := by rw [List.length_take, List.length_drop]; omega
  refine ⟨if c = p then A else A.map (·.add (p * 1)), c - p, ?_, ?_, by omega⟩
  · intro W
    rw [cut_mid (P := Try.prog) 32 5 .i64 .i64 Try.underlying32 hi 1 hz1 A s.length c p z (by omega) (by omega) (by omega) hc W, hl, Int.toNat_natCast, Int.toNat_natCast, show z - p = n by omega]
  · have h := Kd.C_mid (lo := p) (hi := z) (c := c) hC (by omega) hle hc
    rw [List.drop_take, show z - p = n by omega] at h
    exact h
set_option maxHeartbeats 8000000 in
set_option maxRecDepth 100000 in
theorem Bytes_calls (g : Nat) (s : List Int) (at_ : Nat) (most : Int) (hmost : -9223372036854775808 ≤ most ∧ most ≤ 9223372036854775807) (w0 w : World) (hI : IsS146 w0 w g s (at_ : Int) 0 true) (hB : Below w0.heap.size w0 w) (hs : Bs s) (hlen : s.length < 140737488355328) (hat : at_ ≤ s.length) :
    Calls Try.prog 81 #[.pointer (some ⟨g, 0, none⟩), .int .i64 most] w fun e w' => ∃ v, e = .returned v ∧ Kd.R (Kd.int .u8) 5 w' w.heap.size (fun k => k ≠ g) v (bytesP s at_ most).1 ∧ IsS146 w0 w' g s ((bytesP s at_ most).2.1 : Int) (bytesP s at_ most).2.2 true ∧ Below w0.heap.size w0 w' ∧ KeepBut w w' g none := by
  have HI := Aside0.mk hI
  have HK := Aside0.mk (KeepBut.refl w g none)
  have HB := Aside0.mk hB
  have HSB := Aside0.mk hs
  have hN := Number_eq s hs hlen at_ hat 36 (by decide)
  have hok := numGo_ok (s.drop at_) 0 0
  have hlt := numGo_lt (s.drop at_) 0 0 (by decide) (by decide)
  rw [show numGo 0 0 (s.drop at_) = num (s.drop at_) from rfl] at hok hlt
  have HE := Aside0.mk (show wire_Reader_Err.f s (at_ : Int) 0 true = some (0, (at_ : Int), 0, true) from rfl)
  unfold bytesP
  generalize num (s.drop at_) = q at *
  obtain ⟨n, c, e⟩ := q
  simp only at hN hok hlt ⊢
  have HLT := Aside0.mk hlt
  clear hI hB hs hlt
  by_cases c0 : e = 0
  · subst c0
    obtain ⟨p, hp⟩ : ∃ p : Nat, at_ + c = p := ⟨_, rfl⟩
    replace hN : wire_Reader_Number.f 36 s (at_ : Int) 0 true = some ((n : Int), (p : Int), 0, true) := by rw [← hp]; exact hN
    rw [hp]
    have HN := Aside0.mk hN
    obtain ⟨hcl, hcp⟩ := hok rfl
    rw [List.length_drop] at hcl
    clear hok hN
    simp only [ne_eq, not_true_eq_false, if_false]
    obtain ⟨M, hMX⟩ : ∃ M : Int, (if most < 0 then (0 : Int) else most) = M := ⟨_, rfl⟩
    have hM0 : 0 ≤ M ∧ M < 18446744073709551616 := by rw [← hMX]; split <;> omega
    have hw1 : IntKind.u64.wrap M = M := by rw [wrap_u64']; omega
    rw [hMX]
    clear hmost
    by_cases c1 : M < (n : Int)
    · rw [if_pos c1]
      have c1b : decide (M < (n : Int)) = true := decide_eq_true c1
      have HST := Aside0.mk (show wire_Reader_stop.f s (p : Int) 0 true (at_ : Int) 4 = some ((at_ : Int), 4, true) from rfl)
      have HC1 := Aside0.mk c1; (try have HC2 := Aside0.mk c2); have HM0 := Aside0.mk hM0; have HLN := Aside0.mk hlen; have HAT := Aside0.mk hat; have HCL := Aside0.mk hcl; have HP := Aside0.mk hp; clear c1 hM0 hlen hat hcl hcp hp; (try clear c2)
      go_enter Try.func81, Try.ntmps81
      obtain ⟨AS, cS, HG, hg, HS⟩ := HI.out; have hc_0 := cellS62_0 HG; have hc_1 := cellS62_1 HG; have hc_2 := cellS62_2 HG; have hc_3 := cellS62_3 HG; have hf_1 := blk_frozen HG 1; have hf_2 := blk_frozen HG 2; have hf_3 := blk_frozen HG 3; clear hg HG
      go_wp2_with (first | (go_at_call 95; (with_reducible refine (wire_Reader_Err.calls g s _ _ _ _ _ _ _ w0 _ (by repeat (first | (with_reducible first | exact HI.out | apply IsS146.alloc | apply IsS146.drewN | apply IsS146.drew | apply IsS146.set_1 | apply IsS146.set_2 | apply IsS146.set_3) | exact HI.out)) (by repeat (first | (with_reducible first | exact HB.out | apply below_alloc | apply pw_below_drewN | apply below_drew1 | refine below_set ?_ (IsS146.ge HI.out)) | exact HB.out)) HE.out).mono ?_); rintro e w4 ⟨rfl, hi, hb, hk⟩; have n0_ := Aside0.mk (KeepBut.trans (by repeat (first | (with_reducible first | exact HK.out | apply KeepBut.set_ | apply keep_drewN | apply keep_drew | apply keep_alloc) | exact HK.out)) hk (.inl rfl)); have n1_ := Aside0.mk hb; have n2_ := Aside0.mk hi; clear HK; clear HB; clear HI; have HK := n0_; have HB := n1_; have HI := n2_; clear n0_ n1_ n2_; (try clear hb); (try clear hk); (try clear hi); (try clear hc_0); (try clear hc_1); (try clear hc_2); (try clear hc_3); (try clear hf_1); (try clear hf_2); (try clear hf_3); (try clear HS); (try clear cS); (try clear AS); obtain ⟨AS, cS, HG, hg, HS⟩ := HI.out; have hc_0 := cellS62_0 HG; have hc_1 := cellS62_1 HG; have hc_2 := cellS62_2 HG; have hc_3 := cellS62_3 HG; have hf_1 := blk_frozen HG 1; have hf_2 := blk_frozen HG 2; have hf_3 := blk_frozen HG 3; clear hg HG) | (go_at_call 94; (with_reducible refine (wire_Reader_Number.calls 36 g s _ _ _ _ _ _ _ w0 _ (by repeat (first | (with_reducible first | exact HI.out | apply IsS146.alloc | apply IsS146.drewN | apply IsS146.drew | apply IsS146.set_1 | apply IsS146.set_2 | apply IsS146.set_3) | exact HI.out)) (by repeat (first | (with_reducible first | exact HB.out | apply below_alloc | apply pw_below_drewN | apply below_drew1 | refine below_set ?_ (IsS146.ge HI.out)) | exact HB.out)) HN.out).mono ?_); rintro e w4 ⟨rfl, hi, hb, hk⟩; have n0_ := Aside0.mk (KeepBut.trans (by repeat (first | (with_reducible first | exact HK.out | apply KeepBut.set_ | apply keep_drewN | apply keep_drew | apply keep_alloc) | exact HK.out)) hk (.inl rfl)); have n1_ := Aside0.mk hb; have n2_ := Aside0.mk hi; clear HK; clear HB; clear HI; have HK := n0_; have HB := n1_; have HI := n2_; clear n0_ n1_ n2_; (try clear hb); (try clear hk); (try clear hi); (try clear hc_0); (try clear hc_1); (try clear hc_2); (try clear hc_3); (try clear hf_1); (try clear hf_2); (try clear hf_3); (try clear HS); (try clear cS); (try clear AS); obtain ⟨AS, cS, HG, hg, HS⟩ := HI.out; have hc_0 := cellS62_0 HG; have hc_1 := cellS62_1 HG; have hc_2 := cellS62_2 HG; have hc_3 := cellS62_3 HG; have hf_1 := blk_frozen HG 1; have hf_2 := blk_frozen HG 2; have hf_3 := blk_frozen HG 3; clear hg HG) | (go_at_call 96; (with_reducible refine (wire_Reader_stop.calls g s _ _ _ _ _ _ _ _ w0 _ (by repeat (first | (with_reducible first | exact HI.out | apply IsS146.alloc | apply IsS146.drewN | apply IsS146.drew | apply IsS146.set_1 | apply IsS146.set_2 | apply IsS146.set_3) | exact HI.out)) (by repeat (first | (with_reducible first | exact HB.out | apply below_alloc | apply pw_below_drewN | apply below_drew1 | refine below_set ?_ (IsS146.ge HI.out)) | exact HB.out)) HST.out).mono ?_); rintro e w4 ⟨rfl, hi, hb, hk⟩; have n0_ := Aside0.mk (KeepBut.trans (by repeat (first | (with_reducible first | exact HK.out | apply KeepBut.set_ | apply keep_drewN | apply keep_drew | apply keep_alloc) | exact HK.out)) hk (.inl rfl)); have n1_ := Aside0.mk hb; have n2_ := Aside0.mk hi; clear HK; clear HB; clear HI; have HK := n0_; have HB := n1_; have HI := n2_; clear n0_ n1_ n2_; (try clear hb); (try clear hk); (try clear hi); (try clear hc_0); (try clear hc_1); (try clear hc_2); (try clear hc_3); (try clear hf_1); (try clear hf_2); (try clear hf_3); (try clear HS); (try clear cS); (try clear AS); obtain ⟨AS, cS, HG, hg, HS⟩ := HI.out; have hc_0 := cellS62_0 HG; have hc_1 := cellS62_1 HG; have hc_2 := cellS62_2 HG; have hc_3 := cellS62_3 HG; have hf_1 := blk_frozen HG 1; have hf_2 := blk_frozen HG 2; have hf_3 := blk_frozen HG 3; clear hg HG)); repeat (go_quiet (first | (go_at_call 95; (with_reducible refine (wire_Reader_Err.calls g s _ _ _ _ _ _ _ w0 _ (by repeat (first | (with_reducible first | exact HI.out | apply IsS146.alloc | apply IsS146.drewN | apply IsS146.drew | apply IsS146.set_1 | apply IsS146.set_2 | apply IsS146.set_3) | exact HI.out)) (by repeat (first | (with_reducible first | exact HB.out | apply below_alloc | apply pw_below_drewN | apply below_drew1 | refine below_set ?_ (IsS146.ge HI.out)) | exact HB.out)) HE.out).mono ?_); rintro e w4 ⟨rfl, hi, hb, hk⟩; have n0_ := Aside0.mk (KeepBut.trans (by repeat (first | (with_reducible first | exact HK.out | apply KeepBut.set_ | apply keep_drewN | apply keep_drew | apply keep_alloc) | exact HK.out)) hk (.inl rfl)); have n1_ := Aside0.mk hb; have n2_ := Aside0.mk hi; clear HK; clear HB; clear HI; have HK := n0_; have HB := n1_; have HI := n2_; clear n0_ n1_ n2_; (try clear hb); (try clear hk); (try clear hi); (try clear hc_0); (try clear hc_1); (try clear hc_2); (try clear hc_3); (try clear hf_1); (try clear hf_2); (try clear hf_3); (try clear HS); (try clear cS); (try clear AS); obtain ⟨AS, cS, HG, hg, HS⟩ := HI.out; have hc_0 := cellS62_0 HG; have hc_1 := cellS62_1 HG; have hc_2 := cellS62_2 HG; have hc_3 := cellS62_3 HG; have hf_1 := blk_frozen HG 1; have hf_2 := blk_frozen HG 2; have hf_3 := blk_frozen HG 3; clear hg HG) | (go_at_call 94; (with_reducible refine (wire_Reader_Number.calls 36 g s _ _ _ _ _ _ _ w0 _ (by repeat (first | (with_reducible first | exact HI.out | apply IsS146.alloc | apply IsS146.drewN | apply IsS146.drew | apply IsS146.set_1 | apply IsS146.set_2 | apply IsS146.set_3) | exact HI.out)) (by repeat (first | (with_reducible first | exact HB.out | apply below_alloc | apply pw_below_drewN | apply below_drew1 | refine below_set ?_ (IsS146.ge HI.out)) | exact HB.out)) HN.out).mono ?_); rintro e w4 ⟨rfl, hi, hb, hk⟩; have n0_ := Aside0.mk (KeepBut.trans (by repeat (first | (with_reducible first | exact HK.out | apply KeepBut.set_ | apply keep_drewN | apply keep_drew | apply keep_alloc) | exact HK.out)) hk (.inl rfl)); have n1_ := Aside0.mk hb; have n2_ := Aside0.mk hi; clear HK; clear HB; clear HI; have HK := n0_; have HB := n1_; have HI := n2_; clear n0_ n1_ n2_; (try clear hb); (try clear hk); (try clear hi); (try clear hc_0); (try clear hc_1); (try clear hc_2); (try clear hc_3); (try clear hf_1); (try clear hf_2); (try clear hf_3); (try clear HS); (try clear cS); (try clear AS); obtain ⟨AS, cS, HG, hg, HS⟩ := HI.out; have hc_0 := cellS62_0 HG; have hc_1 := cellS62_1 HG; have hc_2 := cellS62_2 HG; have hc_3 := cellS62_3 HG; have hf_1 := blk_frozen HG 1; have hf_2 := blk_frozen HG 2; have hf_3 := blk_frozen HG 3; clear hg HG) | (go_at_call 96; (with_reducible refine (wire_Reader_stop.calls g s _ _ _ _ _ _ _ _ w0 _ (by repeat (first | (with_reducible first | exact HI.out | apply IsS146.alloc | apply IsS146.drewN | apply IsS146.drew | apply IsS146.set_1 | apply IsS146.set_2 | apply IsS146.set_3) | exact HI.out)) (by repeat (first | (with_reducible first | exact HB.out | apply below_alloc | apply pw_below_drewN | apply below_drew1 | refine below_set ?_ (IsS146.ge HI.out)) | exact HB.out)) HST.out).mono ?_); rintro e w4 ⟨rfl, hi, hb, hk⟩; have n0_ := Aside0.mk (KeepBut.trans (by repeat (first | (with_reducible first | exact HK.out | apply KeepBut.set_ | apply keep_drewN | apply keep_drew | apply keep_alloc) | exact HK.out)) hk (.inl rfl)); have n1_ := Aside0.mk hb; have n2_ := Aside0.mk hi; clear HK; clear HB; clear HI; have HK := n0_; have HB := n1_; have HI := n2_; clear n0_ n1_ n2_; (try clear hb); (try clear hk); (try clear hi); (try clear hc_0); (try clear hc_1); (try clear hc_2); (try clear hc_3); (try clear hf_1); (try clear hf_2); (try clear hf_3); (try clear HS); (try clear cS); (try clear AS); obtain ⟨AS, cS, HG, hg, HS⟩ := HI.out; have hc_0 := cellS62_0 HG; have hc_1 := cellS62_1 HG; have hc_2 := cellS62_2 HG; have hc_3 := cellS62_3 HG; have hf_1 := blk_frozen HG 1; have hf_2 := blk_frozen HG 2; have hf_3 := blk_frozen HG 3; clear hg HG)); try go_wp2_with (first | (go_at_call 95; (with_reducible refine (wire_Reader_Err.calls g s _ _ _ _ _ _ _ w0 _ (by repeat (first | (with_reducible first | exact HI.out | apply IsS146.alloc | apply IsS146.drewN | apply IsS146.drew | apply IsS146.set_1 | apply IsS146.set_2 | apply IsS146.set_3) | exact HI.out)) (by repeat (first | (with_reducible first | exact HB.out | apply below_alloc | apply pw_below_drewN | apply below_drew1 | refine below_set ?_ (IsS146.ge HI.out)) | exact HB.out)) HE.out).mono ?_); rintro e w4 ⟨rfl, hi, hb, hk⟩; have n0_ := Aside0.mk (KeepBut.trans (by repeat (first | (with_reducible first | exact HK.out | apply KeepBut.set_ | apply keep_drewN | apply keep_drew | apply keep_alloc) | exact HK.out)) hk (.inl rfl)); have n1_ := Aside0.mk hb; have n2_ := Aside0.mk hi; clear HK; clear HB; clear HI; have HK := n0_; have HB := n1_; have HI := n2_; clear n0_ n1_ n2_; (try clear hb); (try clear hk); (try clear hi); (try clear hc_0); (try clear hc_1); (try clear hc_2); (try clear hc_3); (try clear hf_1); (try clear hf_2); (try clear hf_3); (try clear HS); (try clear cS); (try clear AS); obtain ⟨AS, cS, HG, hg, HS⟩ := HI.out; have hc_0 := cellS62_0 HG; have hc_1 := cellS62_1 HG; have hc_2 := cellS62_2 HG; have hc_3 := cellS62_3 HG; have hf_1 := blk_frozen HG 1; have hf_2 := blk_frozen HG 2; have hf_3 := blk_frozen HG 3; clear hg HG) | (go_at_call 94; (with_reducible refine (wire_Reader_Number.calls 36 g s _ _ _ _ _ _ _ w0 _ (by repeat (first | (with_reducible first | exact HI.out | apply IsS146.alloc | apply IsS146.drewN | apply IsS146.drew | apply IsS146.set_1 | apply IsS146.set_2 | apply IsS146.set_3) | exact HI.out)) (by repeat (first | (with_reducible first | exact HB.out | apply below_alloc | apply pw_below_drewN | apply below_drew1 | refine below_set ?_ (IsS146.ge HI.out)) | exact HB.out)) HN.out).mono ?_); rintro e w4 ⟨rfl, hi, hb, hk⟩; have n0_ := Aside0.mk (KeepBut.trans (by repeat (first | (with_reducible first | exact HK.out | apply KeepBut.set_ | apply keep_drewN | apply keep_drew | apply keep_alloc) | exact HK.out)) hk (.inl rfl)); have n1_ := Aside0.mk hb; have n2_ := Aside0.mk hi; clear HK; clear HB; clear HI; have HK := n0_; have HB := n1_; have HI := n2_; clear n0_ n1_ n2_; (try clear hb); (try clear hk); (try clear hi); (try clear hc_0); (try clear hc_1); (try clear hc_2); (try clear hc_3); (try clear hf_1); (try clear hf_2); (try clear hf_3); (try clear HS); (try clear cS); (try clear AS); obtain ⟨AS, cS, HG, hg, HS⟩ := HI.out; have hc_0 := cellS62_0 HG; have hc_1 := cellS62_1 HG; have hc_2 := cellS62_2 HG; have hc_3 := cellS62_3 HG; have hf_1 := blk_frozen HG 1; have hf_2 := blk_frozen HG 2; have hf_3 := blk_frozen HG 3; clear hg HG) | (go_at_call 96; (with_reducible refine (wire_Reader_stop.calls g s _ _ _ _ _ _ _ _ w0 _ (by repeat (first | (with_reducible first | exact HI.out | apply IsS146.alloc | apply IsS146.drewN | apply IsS146.drew | apply IsS146.set_1 | apply IsS146.set_2 | apply IsS146.set_3) | exact HI.out)) (by repeat (first | (with_reducible first | exact HB.out | apply below_alloc | apply pw_below_drewN | apply below_drew1 | refine below_set ?_ (IsS146.ge HI.out)) | exact HB.out)) HST.out).mono ?_); rintro e w4 ⟨rfl, hi, hb, hk⟩; have n0_ := Aside0.mk (KeepBut.trans (by repeat (first | (with_reducible first | exact HK.out | apply KeepBut.set_ | apply keep_drewN | apply keep_drew | apply keep_alloc) | exact HK.out)) hk (.inl rfl)); have n1_ := Aside0.mk hb; have n2_ := Aside0.mk hi; clear HK; clear HB; clear HI; have HK := n0_; have HB := n1_; have HI := n2_; clear n0_ n1_ n2_; (try clear hb); (try clear hk); (try clear hi); (try clear hc_0); (try clear hc_1); (try clear hc_2); (try clear hc_3); (try clear hf_1); (try clear hf_2); (try clear hf_3); (try clear HS); (try clear cS); (try clear AS); obtain ⟨AS, cS, HG, hg, HS⟩ := HI.out; have hc_0 := cellS62_0 HG; have hc_1 := cellS62_1 HG; have hc_2 := cellS62_2 HG; have hc_3 := cellS62_3 HG; have hf_1 := blk_frozen HG 1; have hf_2 := blk_frozen HG 2; have hf_3 := blk_frozen HG 3; clear hg HG)))
      go_ret
      exact ⟨_, rfl, Kd.R_nil _ _ _ _ _, by repeat (first | (with_reducible first | exact HI.out | apply IsS146.alloc | apply IsS146.drewN | apply IsS146.drew | apply IsS146.set_1 | apply IsS146.set_2 | apply IsS146.set_3) | exact HI.out), by repeat (first | (with_reducible first | exact HB.out | apply below_alloc | apply pw_below_drewN | apply below_drew1 | refine below_set ?_ (IsS146.ge HI.out)) | exact HB.out), by repeat (first | (with_reducible first | exact HK.out | apply KeepBut.set_ | apply keep_drewN | apply keep_drew | apply keep_alloc) | exact HK.out)⟩
    · rw [if_neg c1]
      have c1b : decide (M < (n : Int)) = false := decide_eq_false c1
      have hw2 : wrap64 ((s.length : Int) - (p : Int)) = (s.length : Int) - (p : Int) := by unfold wrap64; omega
      have hw3 : IntKind.u64.wrap ((s.length : Int) - (p : Int)) = (s.length : Int) - (p : Int) := by rw [wrap_u64']; omega
      by_cases c2 : s.length < p + n
      · rw [if_pos c2]
        have c2b : decide ((s.length : Int) - (p : Int) < (n : Int)) = true := decide_eq_true (by omega)
        have HST := Aside0.mk (show wire_Reader_stop.f s (p : Int) 0 true (at_ : Int) 2 = some ((at_ : Int), 2, true) from rfl)
        have HC1 := Aside0.mk c1; (try have HC2 := Aside0.mk c2); have HM0 := Aside0.mk hM0; have HLN := Aside0.mk hlen; have HAT := Aside0.mk hat; have HCL := Aside0.mk hcl; have HP := Aside0.mk hp; clear c1 hM0 hlen hat hcl hcp hp; (try clear c2)
        go_enter Try.func81, Try.ntmps81
        obtain ⟨AS, cS, HG, hg, HS⟩ := HI.out; have hc_0 := cellS62_0 HG; have hc_1 := cellS62_1 HG; have hc_2 := cellS62_2 HG; have hc_3 := cellS62_3 HG; have hf_1 := blk_frozen HG 1; have hf_2 := blk_frozen HG 2; have hf_3 := blk_frozen HG 3; clear hg HG
        go_wp2_with (first | (go_at_call 95; (with_reducible refine (wire_Reader_Err.calls g s _ _ _ _ _ _ _ w0 _ (by repeat (first | (with_reducible first | exact HI.out | apply IsS146.alloc | apply IsS146.drewN | apply IsS146.drew | apply IsS146.set_1 | apply IsS146.set_2 | apply IsS146.set_3) | exact HI.out)) (by repeat (first | (with_reducible first | exact HB.out | apply below_alloc | apply pw_below_drewN | apply below_drew1 | refine below_set ?_ (IsS146.ge HI.out)) | exact HB.out)) HE.out).mono ?_); rintro e w4 ⟨rfl, hi, hb, hk⟩; have n0_ := Aside0.mk (KeepBut.trans (by repeat (first | (with_reducible first | exact HK.out | apply KeepBut.set_ | apply keep_drewN | apply keep_drew | apply keep_alloc) | exact HK.out)) hk (.inl rfl)); have n1_ := Aside0.mk hb; have n2_ := Aside0.mk hi; clear HK; clear HB; clear HI; have HK := n0_; have HB := n1_; have HI := n2_; clear n0_ n1_ n2_; (try clear hb); (try clear hk); (try clear hi); (try clear hc_0); (try clear hc_1); (try clear hc_2); (try clear hc_3); (try clear hf_1); (try clear hf_2); (try clear hf_3); (try clear HS); (try clear cS); (try clear AS); obtain ⟨AS, cS, HG, hg, HS⟩ := HI.out; have hc_0 := cellS62_0 HG; have hc_1 := cellS62_1 HG; have hc_2 := cellS62_2 HG; have hc_3 := cellS62_3 HG; have hf_1 := blk_frozen HG 1; have hf_2 := blk_frozen HG 2; have hf_3 := blk_frozen HG 3; clear hg HG) | (go_at_call 94; (with_reducible refine (wire_Reader_Number.calls 36 g s _ _ _ _ _ _ _ w0 _ (by repeat (first | (with_reducible first | exact HI.out | apply IsS146.alloc | apply IsS146.drewN | apply IsS146.drew | apply IsS146.set_1 | apply IsS146.set_2 | apply IsS146.set_3) | exact HI.out)) (by repeat (first | (with_reducible first | exact HB.out | apply below_alloc | apply pw_below_drewN | apply below_drew1 | refine below_set ?_ (IsS146.ge HI.out)) | exact HB.out)) HN.out).mono ?_); rintro e w4 ⟨rfl, hi, hb, hk⟩; have n0_ := Aside0.mk (KeepBut.trans (by repeat (first | (with_reducible first | exact HK.out | apply KeepBut.set_ | apply keep_drewN | apply keep_drew | apply keep_alloc) | exact HK.out)) hk (.inl rfl)); have n1_ := Aside0.mk hb; have n2_ := Aside0.mk hi; clear HK; clear HB; clear HI; have HK := n0_; have HB := n1_; have HI := n2_; clear n0_ n1_ n2_; (try clear hb); (try clear hk); (try clear hi); (try clear hc_0); (try clear hc_1); (try clear hc_2); (try clear hc_3); (try clear hf_1); (try clear hf_2); (try clear hf_3); (try clear HS); (try clear cS); (try clear AS); obtain ⟨AS, cS, HG, hg, HS⟩ := HI.out; have hc_0 := cellS62_0 HG; have hc_1 := cellS62_1 HG; have hc_2 := cellS62_2 HG; have hc_3 := cellS62_3 HG; have hf_1 := blk_frozen HG 1; have hf_2 := blk_frozen HG 2; have hf_3 := blk_frozen HG 3; clear hg HG) | (go_at_call 96; (with_reducible refine (wire_Reader_stop.calls g s _ _ _ _ _ _ _ _ w0 _ (by repeat (first | (with_reducible first | exact HI.out | apply IsS146.alloc | apply IsS146.drewN | apply IsS146.drew | apply IsS146.set_1 | apply IsS146.set_2 | apply IsS146.set_3) | exact HI.out)) (by repeat (first | (with_reducible first | exact HB.out | apply below_alloc | apply pw_below_drewN | apply below_drew1 | refine below_set ?_ (IsS146.ge HI.out)) | exact HB.out)) HST.out).mono ?_); rintro e w4 ⟨rfl, hi, hb, hk⟩; have n0_ := Aside0.mk (KeepBut.trans (by repeat (first | (with_reducible first | exact HK.out | apply KeepBut.set_ | apply keep_drewN | apply keep_drew | apply keep_alloc) | exact HK.out)) hk (.inl rfl)); have n1_ := Aside0.mk hb; have n2_ := Aside0.mk hi; clear HK; clear HB; clear HI; have HK := n0_; have HB := n1_; have HI := n2_; clear n0_ n1_ n2_; (try clear hb); (try clear hk); (try clear hi); (try clear hc_0); (try clear hc_1); (try clear hc_2); (try clear hc_3); (try clear hf_1); (try clear hf_2); (try clear hf_3); (try clear HS); (try clear cS); (try clear AS); obtain ⟨AS, cS, HG, hg, HS⟩ := HI.out; have hc_0 := cellS62_0 HG; have hc_1 := cellS62_1 HG; have hc_2 := cellS62_2 HG; have hc_3 := cellS62_3 HG; have hf_1 := blk_frozen HG 1; have hf_2 := blk_frozen HG 2; have hf_3 := blk_frozen HG 3; clear hg HG)); repeat (go_quiet (first | (go_at_call 95; (with_reducible refine (wire_Reader_Err.calls g s _ _ _ _ _ _ _ w0 _ (by repeat (first | (with_reducible first | exact HI.out | apply IsS146.alloc | apply IsS146.drewN | apply IsS146.drew | apply IsS146.set_1 | apply IsS146.set_2 | apply IsS146.set_3) | exact HI.out)) (by repeat (first | (with_reducible first | exact HB.out | apply below_alloc | apply pw_below_drewN | apply below_drew1 | refine below_set ?_ (IsS146.ge HI.out)) | exact HB.out)) HE.out).mono ?_); rintro e w4 ⟨rfl, hi, hb, hk⟩; have n0_ := Aside0.mk (KeepBut.trans (by repeat (first | (with_reducible first | exact HK.out | apply KeepBut.set_ | apply keep_drewN | apply keep_drew | apply keep_alloc) | exact HK.out)) hk (.inl rfl)); have n1_ := Aside0.mk hb; have n2_ := Aside0.mk hi; clear HK; clear HB; clear HI; have HK := n0_; have HB := n1_; have HI := n2_; clear n0_ n1_ n2_; (try clear hb); (try clear hk); (try clear hi); (try clear hc_0); (try clear hc_1); (try clear hc_2); (try clear hc_3); (try clear hf_1); (try clear hf_2); (try clear hf_3); (try clear HS); (try clear cS); (try clear AS); obtain ⟨AS, cS, HG, hg, HS⟩ := HI.out; have hc_0 := cellS62_0 HG; have hc_1 := cellS62_1 HG; have hc_2 := cellS62_2 HG; have hc_3 := cellS62_3 HG; have hf_1 := blk_frozen HG 1; have hf_2 := blk_frozen HG 2; have hf_3 := blk_frozen HG 3; clear hg HG) | (go_at_call 94; (with_reducible refine (wire_Reader_Number.calls 36 g s _ _ _ _ _ _ _ w0 _ (by repeat (first | (with_reducible first | exact HI.out | apply IsS146.alloc | apply IsS146.drewN | apply IsS146.drew | apply IsS146.set_1 | apply IsS146.set_2 | apply IsS146.set_3) | exact HI.out)) (by repeat (first | (with_reducible first | exact HB.out | apply below_alloc | apply pw_below_drewN | apply below_drew1 | refine below_set ?_ (IsS146.ge HI.out)) | exact HB.out)) HN.out).mono ?_); rintro e w4 ⟨rfl, hi, hb, hk⟩; have n0_ := Aside0.mk (KeepBut.trans (by repeat (first | (with_reducible first | exact HK.out | apply KeepBut.set_ | apply keep_drewN | apply keep_drew | apply keep_alloc) | exact HK.out)) hk (.inl rfl)); have n1_ := Aside0.mk hb; have n2_ := Aside0.mk hi; clear HK; clear HB; clear HI; have HK := n0_; have HB := n1_; have HI := n2_; clear n0_ n1_ n2_; (try clear hb); (try clear hk); (try clear hi); (try clear hc_0); (try clear hc_1); (try clear hc_2); (try clear hc_3); (try clear hf_1); (try clear hf_2); (try clear hf_3); (try clear HS); (try clear cS); (try clear AS); obtain ⟨AS, cS, HG, hg, HS⟩ := HI.out; have hc_0 := cellS62_0 HG; have hc_1 := cellS62_1 HG; have hc_2 := cellS62_2 HG; have hc_3 := cellS62_3 HG; have hf_1 := blk_frozen HG 1; have hf_2 := blk_frozen HG 2; have hf_3 := blk_frozen HG 3; clear hg HG) | (go_at_call 96; (with_reducible refine (wire_Reader_stop.calls g s _ _ _ _ _ _ _ _ w0 _ (by repeat (first | (with_reducible first | exact HI.out | apply IsS146.alloc | apply IsS146.drewN | apply IsS146.drew | apply IsS146.set_1 | apply IsS146.set_2 | apply IsS146.set_3) | exact HI.out)) (by repeat (first | (with_reducible first | exact HB.out | apply below_alloc | apply pw_below_drewN | apply below_drew1 | refine below_set ?_ (IsS146.ge HI.out)) | exact HB.out)) HST.out).mono ?_); rintro e w4 ⟨rfl, hi, hb, hk⟩; have n0_ := Aside0.mk (KeepBut.trans (by repeat (first | (with_reducible first | exact HK.out | apply KeepBut.set_ | apply keep_drewN | apply keep_drew | apply keep_alloc) | exact HK.out)) hk (.inl rfl)); have n1_ := Aside0.mk hb; have n2_ := Aside0.mk hi; clear HK; clear HB; clear HI; have HK := n0_; have HB := n1_; have HI := n2_; clear n0_ n1_ n2_; (try clear hb); (try clear hk); (try clear hi); (try clear hc_0); (try clear hc_1); (try clear hc_2); (try clear hc_3); (try clear hf_1); (try clear hf_2); (try clear hf_3); (try clear HS); (try clear cS); (try clear AS); obtain ⟨AS, cS, HG, hg, HS⟩ := HI.out; have hc_0 := cellS62_0 HG; have hc_1 := cellS62_1 HG; have hc_2 := cellS62_2 HG; have hc_3 := cellS62_3 HG; have hf_1 := blk_frozen HG 1; have hf_2 := blk_frozen HG 2; have hf_3 := blk_frozen HG 3; clear hg HG)); try go_wp2_with (first | (go_at_call 95; (with_reducible refine (wire_Reader_Err.calls g s _ _ _ _ _ _ _ w0 _ (by repeat (first | (with_reducible first | exact HI.out | apply IsS146.alloc | apply IsS146.drewN | apply IsS146.drew | apply IsS146.set_1 | apply IsS146.set_2 | apply IsS146.set_3) | exact HI.out)) (by repeat (first | (with_reducible first | exact HB.out | apply below_alloc | apply pw_below_drewN | apply below_drew1 | refine below_set ?_ (IsS146.ge HI.out)) | exact HB.out)) HE.out).mono ?_); rintro e w4 ⟨rfl, hi, hb, hk⟩; have n0_ := Aside0.mk (KeepBut.trans (by repeat (first | (with_reducible first | exact HK.out | apply KeepBut.set_ | apply keep_drewN | apply keep_drew | apply keep_alloc) | exact HK.out)) hk (.inl rfl)); have n1_ := Aside0.mk hb; have n2_ := Aside0.mk hi; clear HK; clear HB; clear HI; have HK := n0_; have HB := n1_; have HI := n2_; clear n0_ n1_ n2_; (try clear hb); (try clear hk); (try clear hi); (try clear hc_0); (try clear hc_1); (try clear hc_2); (try clear hc_3); (try clear hf_1); (try clear hf_2); (try clear hf_3); (try clear HS); (try clear cS); (try clear AS); obtain ⟨AS, cS, HG, hg, HS⟩ := HI.out; have hc_0 := cellS62_0 HG; have hc_1 := cellS62_1 HG; have hc_2 := cellS62_2 HG; have hc_3 := cellS62_3 HG; have hf_1 := blk_frozen HG 1; have hf_2 := blk_frozen HG 2; have hf_3 := blk_frozen HG 3; clear hg HG) | (go_at_call 94; (with_reducible refine (wire_Reader_Number.calls 36 g s _ _ _ _ _ _ _ w0 _ (by repeat (first | (with_reducible first | exact HI.out | apply IsS146.alloc | apply IsS146.drewN | apply IsS146.drew | apply IsS146.set_1 | apply IsS146.set_2 | apply IsS146.set_3) | exact HI.out)) (by repeat (first | (with_reducible first | exact HB.out | apply below_alloc | apply pw_below_drewN | apply below_drew1 | refine below_set ?_ (IsS146.ge HI.out)) | exact HB.out)) HN.out).mono ?_); rintro e w4 ⟨rfl, hi, hb, hk⟩; have n0_ := Aside0.mk (KeepBut.trans (by repeat (first | (with_reducible first | exact HK.out | apply KeepBut.set_ | apply keep_drewN | apply keep_drew | apply keep_alloc) | exact HK.out)) hk (.inl rfl)); have n1_ := Aside0.mk hb; have n2_ := Aside0.mk hi; clear HK; clear HB; clear HI; have HK := n0_; have HB := n1_; have HI := n2_; clear n0_ n1_ n2_; (try clear hb); (try clear hk); (try clear hi); (try clear hc_0); (try clear hc_1); (try clear hc_2); (try clear hc_3); (try clear hf_1); (try clear hf_2); (try clear hf_3); (try clear HS); (try clear cS); (try clear AS); obtain ⟨AS, cS, HG, hg, HS⟩ := HI.out; have hc_0 := cellS62_0 HG; have hc_1 := cellS62_1 HG; have hc_2 := cellS62_2 HG; have hc_3 := cellS62_3 HG; have hf_1 := blk_frozen HG 1; have hf_2 := blk_frozen HG 2; have hf_3 := blk_frozen HG 3; clear hg HG) | (go_at_call 96; (with_reducible refine (wire_Reader_stop.calls g s _ _ _ _ _ _ _ _ w0 _ (by repeat (first | (with_reducible first | exact HI.out | apply IsS146.alloc | apply IsS146.drewN | apply IsS146.drew | apply IsS146.set_1 | apply IsS146.set_2 | apply IsS146.set_3) | exact HI.out)) (by repeat (first | (with_reducible first | exact HB.out | apply below_alloc | apply pw_below_drewN | apply below_drew1 | refine below_set ?_ (IsS146.ge HI.out)) | exact HB.out)) HST.out).mono ?_); rintro e w4 ⟨rfl, hi, hb, hk⟩; have n0_ := Aside0.mk (KeepBut.trans (by repeat (first | (with_reducible first | exact HK.out | apply KeepBut.set_ | apply keep_drewN | apply keep_drew | apply keep_alloc) | exact HK.out)) hk (.inl rfl)); have n1_ := Aside0.mk hb; have n2_ := Aside0.mk hi; clear HK; clear HB; clear HI; have HK := n0_; have HB := n1_; have HI := n2_; clear n0_ n1_ n2_; (try clear hb); (try clear hk); (try clear hi); (try clear hc_0); (try clear hc_1); (try clear hc_2); (try clear hc_3); (try clear hf_1); (try clear hf_2); (try clear hf_3); (try clear HS); (try clear cS); (try clear AS); obtain ⟨AS, cS, HG, hg, HS⟩ := HI.out; have hc_0 := cellS62_0 HG; have hc_1 := cellS62_1 HG; have hc_2 := cellS62_2 HG; have hc_3 := cellS62_3 HG; have hf_1 := blk_frozen HG 1; have hf_2 := blk_frozen HG 2; have hf_3 := blk_frozen HG 3; clear hg HG)))
        go_ret
        exact ⟨_, rfl, Kd.R_nil _ _ _ _ _, by repeat (first | (with_reducible first | exact HI.out | apply IsS146.alloc | apply IsS146.drewN | apply IsS146.drew | apply IsS146.set_1 | apply IsS146.set_2 | apply IsS146.set_3) | exact HI.out), by repeat (first | (with_reducible first | exact HB.out | apply below_alloc | apply pw_below_drewN | apply below_drew1 | refine below_set ?_ (IsS146.ge HI.out)) | exact HB.out), by repeat (first | (with_reducible first | exact HK.out | apply KeepBut.set_ | apply keep_drewN | apply keep_drew | apply keep_alloc) | exact HK.out)⟩
      · rw [if_neg c2]
        have c2b : decide ((s.length : Int) - (p : Int) < (n : Int)) = false := decide_eq_false (by omega)
        obtain ⟨z, hz⟩ : ∃ z : Nat, p + n = z := ⟨_, rfl⟩
        rw [hz]
        have hw4 : wrap64 ((p : Int) + (n : Int)) = (z : Int) := wrap64_sum hz (by clear hw1 hw2 hw3; omega)
        have hw5 : wrap64 (n : Int) = (n : Int) := wrap64_nat (by clear hw1 hw2 hw3 hw4; omega)
        have hw6 : wrap64 ((z : Int) - (n : Int)) = (p : Int) := wrap64_dif hz (by clear hw1 hw2 hw3 hw4 hw5; omega)
        have HZ := Aside0.mk (show p + n = z ∧ z ≤ s.length by clear hw1 hw2 hw3 hw4 hw5 hw6; omega)
        clear hz
        have HC1 := Aside0.mk c1; (try have HC2 := Aside0.mk c2); have HM0 := Aside0.mk hM0; have HLN := Aside0.mk hlen; have HAT := Aside0.mk hat; have HCL := Aside0.mk hcl; have HP := Aside0.mk hp; clear c1 hM0 hlen hat hcl hcp hp; (try clear c2)
        go_enter Try.func81, Try.ntmps81
        obtain ⟨AS, cS, HG, hg, HS⟩ := HI.out; have hc_0 := cellS62_0 HG; have hc_1 := cellS62_1 HG; have hc_2 := cellS62_2 HG; have hc_3 := cellS62_3 HG; have hf_1 := blk_frozen HG 1; have hf_2 := blk_frozen HG 2; have hf_3 := blk_frozen HG 3; clear hg HG
        go_wp2_with (first | (go_at_call 95; (with_reducible refine (wire_Reader_Err.calls g s _ _ _ _ _ _ _ w0 _ (by repeat (first | (with_reducible first | exact HI.out | apply IsS146.alloc | apply IsS146.drewN | apply IsS146.drew | apply IsS146.set_1 | apply IsS146.set_2 | apply IsS146.set_3) | exact HI.out)) (by repeat (first | (with_reducible first | exact HB.out | apply below_alloc | apply pw_below_drewN | apply below_drew1 | refine below_set ?_ (IsS146.ge HI.out)) | exact HB.out)) HE.out).mono ?_); rintro e w4 ⟨rfl, hi, hb, hk⟩; have n0_ := Aside0.mk (KeepBut.trans (by repeat (first | (with_reducible first | exact HK.out | apply KeepBut.set_ | apply keep_drewN | apply keep_drew | apply keep_alloc) | exact HK.out)) hk (.inl rfl)); have n1_ := Aside0.mk hb; have n2_ := Aside0.mk hi; clear HK; clear HB; clear HI; have HK := n0_; have HB := n1_; have HI := n2_; clear n0_ n1_ n2_; (try clear hb); (try clear hk); (try clear hi); (try clear hc_0); (try clear hc_1); (try clear hc_2); (try clear hc_3); (try clear hf_1); (try clear hf_2); (try clear hf_3); (try clear HS); (try clear cS); (try clear AS); obtain ⟨AS, cS, HG, hg, HS⟩ := HI.out; have hc_0 := cellS62_0 HG; have hc_1 := cellS62_1 HG; have hc_2 := cellS62_2 HG; have hc_3 := cellS62_3 HG; have hf_1 := blk_frozen HG 1; have hf_2 := blk_frozen HG 2; have hf_3 := blk_frozen HG 3; clear hg HG) | (go_at_call 94; (with_reducible refine (wire_Reader_Number.calls 36 g s _ _ _ _ _ _ _ w0 _ (by repeat (first | (with_reducible first | exact HI.out | apply IsS146.alloc | apply IsS146.drewN | apply IsS146.drew | apply IsS146.set_1 | apply IsS146.set_2 | apply IsS146.set_3) | exact HI.out)) (by repeat (first | (with_reducible first | exact HB.out | apply below_alloc | apply pw_below_drewN | apply below_drew1 | refine below_set ?_ (IsS146.ge HI.out)) | exact HB.out)) HN.out).mono ?_); rintro e w4 ⟨rfl, hi, hb, hk⟩; have n0_ := Aside0.mk (KeepBut.trans (by repeat (first | (with_reducible first | exact HK.out | apply KeepBut.set_ | apply keep_drewN | apply keep_drew | apply keep_alloc) | exact HK.out)) hk (.inl rfl)); have n1_ := Aside0.mk hb; have n2_ := Aside0.mk hi; clear HK; clear HB; clear HI; have HK := n0_; have HB := n1_; have HI := n2_; clear n0_ n1_ n2_; (try clear hb); (try clear hk); (try clear hi); (try clear hc_0); (try clear hc_1); (try clear hc_2); (try clear hc_3); (try clear hf_1); (try clear hf_2); (try clear hf_3); (try clear HS); (try clear cS); (try clear AS); obtain ⟨AS, cS, HG, hg, HS⟩ := HI.out; have hc_0 := cellS62_0 HG; have hc_1 := cellS62_1 HG; have hc_2 := cellS62_2 HG; have hc_3 := cellS62_3 HG; have hf_1 := blk_frozen HG 1; have hf_2 := blk_frozen HG 2; have hf_3 := blk_frozen HG 3; clear hg HG) | (go_at_call 96; (with_reducible refine (wire_Reader_stop.calls g s _ _ _ _ _ _ _ _ w0 _ (by repeat (first | (with_reducible first | exact HI.out | apply IsS146.alloc | apply IsS146.drewN | apply IsS146.drew | apply IsS146.set_1 | apply IsS146.set_2 | apply IsS146.set_3) | exact HI.out)) (by repeat (first | (with_reducible first | exact HB.out | apply below_alloc | apply pw_below_drewN | apply below_drew1 | refine below_set ?_ (IsS146.ge HI.out)) | exact HB.out)) HST.out).mono ?_); rintro e w4 ⟨rfl, hi, hb, hk⟩; have n0_ := Aside0.mk (KeepBut.trans (by repeat (first | (with_reducible first | exact HK.out | apply KeepBut.set_ | apply keep_drewN | apply keep_drew | apply keep_alloc) | exact HK.out)) hk (.inl rfl)); have n1_ := Aside0.mk hb; have n2_ := Aside0.mk hi; clear HK; clear HB; clear HI; have HK := n0_; have HB := n1_; have HI := n2_; clear n0_ n1_ n2_; (try clear hb); (try clear hk); (try clear hi); (try clear hc_0); (try clear hc_1); (try clear hc_2); (try clear hc_3); (try clear hf_1); (try clear hf_2); (try clear hf_3); (try clear HS); (try clear cS); (try clear AS); obtain ⟨AS, cS, HG, hg, HS⟩ := HI.out; have hc_0 := cellS62_0 HG; have hc_1 := cellS62_1 HG; have hc_2 := cellS62_2 HG; have hc_3 := cellS62_3 HG; have hf_1 := blk_frozen HG 1; have hf_2 := blk_frozen HG 2; have hf_3 := blk_frozen HG 3; clear hg HG)); repeat (go_quiet (first | (go_at_call 95; (with_reducible refine (wire_Reader_Err.calls g s _ _ _ _ _ _ _ w0 _ (by repeat (first | (with_reducible first | exact HI.out | apply IsS146.alloc | apply IsS146.drewN | apply IsS146.drew | apply IsS146.set_1 | apply IsS146.set_2 | apply IsS146.set_3) | exact HI.out)) (by repeat (first | (with_reducible first | exact HB.out | apply below_alloc | apply pw_below_drewN | apply below_drew1 | refine below_set ?_ (IsS146.ge HI.out)) | exact HB.out)) HE.out).mono ?_); rintro e w4 ⟨rfl, hi, hb, hk⟩; have n0_ := Aside0.mk (KeepBut.trans (by repeat (first | (with_reducible first | exact HK.out | apply KeepBut.set_ | apply keep_drewN | apply keep_drew | apply keep_alloc) | exact HK.out)) hk (.inl rfl)); have n1_ := Aside0.mk hb; have n2_ := Aside0.mk hi; clear HK; clear HB; clear HI; have HK := n0_; have HB := n1_; have HI := n2_; clear n0_ n1_ n2_; (try clear hb); (try clear hk); (try clear hi); (try clear hc_0); (try clear hc_1); (try clear hc_2); (try clear hc_3); (try clear hf_1); (try clear hf_2); (try clear hf_3); (try clear HS); (try clear cS); (try clear AS); obtain ⟨AS, cS, HG, hg, HS⟩ := HI.out; have hc_0 := cellS62_0 HG; have hc_1 := cellS62_1 HG; have hc_2 := cellS62_2 HG; have hc_3 := cellS62_3 HG; have hf_1 := blk_frozen HG 1; have hf_2 := blk_frozen HG 2; have hf_3 := blk_frozen HG 3; clear hg HG) | (go_at_call 94; (with_reducible refine (wire_Reader_Number.calls 36 g s _ _ _ _ _ _ _ w0 _ (by repeat (first | (with_reducible first | exact HI.out | apply IsS146.alloc | apply IsS146.drewN | apply IsS146.drew | apply IsS146.set_1 | apply IsS146.set_2 | apply IsS146.set_3) | exact HI.out)) (by repeat (first | (with_reducible first | exact HB.out | apply below_alloc | apply pw_below_drewN | apply below_drew1 | refine below_set ?_ (IsS146.ge HI.out)) | exact HB.out)) HN.out).mono ?_); rintro e w4 ⟨rfl, hi, hb, hk⟩; have n0_ := Aside0.mk (KeepBut.trans (by repeat (first | (with_reducible first | exact HK.out | apply KeepBut.set_ | apply keep_drewN | apply keep_drew | apply keep_alloc) | exact HK.out)) hk (.inl rfl)); have n1_ := Aside0.mk hb; have n2_ := Aside0.mk hi; clear HK; clear HB; clear HI; have HK := n0_; have HB := n1_; have HI := n2_; clear n0_ n1_ n2_; (try clear hb); (try clear hk); (try clear hi); (try clear hc_0); (try clear hc_1); (try clear hc_2); (try clear hc_3); (try clear hf_1); (try clear hf_2); (try clear hf_3); (try clear HS); (try clear cS); (try clear AS); obtain ⟨AS, cS, HG, hg, HS⟩ := HI.out; have hc_0 := cellS62_0 HG; have hc_1 := cellS62_1 HG; have hc_2 := cellS62_2 HG; have hc_3 := cellS62_3 HG; have hf_1 := blk_frozen HG 1; have hf_2 := blk_frozen HG 2; have hf_3 := blk_frozen HG 3; clear hg HG) | (go_at_call 96; (with_reducible refine (wire_Reader_stop.calls g s _ _ _ _ _ _ _ _ w0 _ (by repeat (first | (with_reducible first | exact HI.out | apply IsS146.alloc | apply IsS146.drewN | apply IsS146.drew | apply IsS146.set_1 | apply IsS146.set_2 | apply IsS146.set_3) | exact HI.out)) (by repeat (first | (with_reducible first | exact HB.out | apply below_alloc | apply pw_below_drewN | apply below_drew1 | refine below_set ?_ (IsS146.ge HI.out)) | exact HB.out)) HST.out).mono ?_); rintro e w4 ⟨rfl, hi, hb, hk⟩; have n0_ := Aside0.mk (KeepBut.trans (by repeat (first | (with_reducible first | exact HK.out | apply KeepBut.set_ | apply keep_drewN | apply keep_drew | apply keep_alloc) | exact HK.out)) hk (.inl rfl)); have n1_ := Aside0.mk hb; have n2_ := Aside0.mk hi; clear HK; clear HB; clear HI; have HK := n0_; have HB := n1_; have HI := n2_; clear n0_ n1_ n2_; (try clear hb); (try clear hk); (try clear hi); (try clear hc_0); (try clear hc_1); (try clear hc_2); (try clear hc_3); (try clear hf_1); (try clear hf_2); (try clear hf_3); (try clear HS); (try clear cS); (try clear AS); obtain ⟨AS, cS, HG, hg, HS⟩ := HI.out; have hc_0 := cellS62_0 HG; have hc_1 := cellS62_1 HG; have hc_2 := cellS62_2 HG; have hc_3 := cellS62_3 HG; have hf_1 := blk_frozen HG 1; have hf_2 := blk_frozen HG 2; have hf_3 := blk_frozen HG 3; clear hg HG)); try go_wp2_with (first | (go_at_call 95; (with_reducible refine (wire_Reader_Err.calls g s _ _ _ _ _ _ _ w0 _ (by repeat (first | (with_reducible first | exact HI.out | apply IsS146.alloc | apply IsS146.drewN | apply IsS146.drew | apply IsS146.set_1 | apply IsS146.set_2 | apply IsS146.set_3) | exact HI.out)) (by repeat (first | (with_reducible first | exact HB.out | apply below_alloc | apply pw_below_drewN | apply below_drew1 | refine below_set ?_ (IsS146.ge HI.out)) | exact HB.out)) HE.out).mono ?_); rintro e w4 ⟨rfl, hi, hb, hk⟩; have n0_ := Aside0.mk (KeepBut.trans (by repeat (first | (with_reducible first | exact HK.out | apply KeepBut.set_ | apply keep_drewN | apply keep_drew | apply keep_alloc) | exact HK.out)) hk (.inl rfl)); have n1_ := Aside0.mk hb; have n2_ := Aside0.mk hi; clear HK; clear HB; clear HI; have HK := n0_; have HB := n1_; have HI := n2_; clear n0_ n1_ n2_; (try clear hb); (try clear hk); (try clear hi); (try clear hc_0); (try clear hc_1); (try clear hc_2); (try clear hc_3); (try clear hf_1); (try clear hf_2); (try clear hf_3); (try clear HS); (try clear cS); (try clear AS); obtain ⟨AS, cS, HG, hg, HS⟩ := HI.out; have hc_0 := cellS62_0 HG; have hc_1 := cellS62_1 HG; have hc_2 := cellS62_2 HG; have hc_3 := cellS62_3 HG; have hf_1 := blk_frozen HG 1; have hf_2 := blk_frozen HG 2; have hf_3 := blk_frozen HG 3; clear hg HG) | (go_at_call 94; (with_reducible refine (wire_Reader_Number.calls 36 g s _ _ _ _ _ _ _ w0 _ (by repeat (first | (with_reducible first | exact HI.out | apply IsS146.alloc | apply IsS146.drewN | apply IsS146.drew | apply IsS146.set_1 | apply IsS146.set_2 | apply IsS146.set_3) | exact HI.out)) (by repeat (first | (with_reducible first | exact HB.out | apply below_alloc | apply pw_below_drewN | apply below_drew1 | refine below_set ?_ (IsS146.ge HI.out)) | exact HB.out)) HN.out).mono ?_); rintro e w4 ⟨rfl, hi, hb, hk⟩; have n0_ := Aside0.mk (KeepBut.trans (by repeat (first | (with_reducible first | exact HK.out | apply KeepBut.set_ | apply keep_drewN | apply keep_drew | apply keep_alloc) | exact HK.out)) hk (.inl rfl)); have n1_ := Aside0.mk hb; have n2_ := Aside0.mk hi; clear HK; clear HB; clear HI; have HK := n0_; have HB := n1_; have HI := n2_; clear n0_ n1_ n2_; (try clear hb); (try clear hk); (try clear hi); (try clear hc_0); (try clear hc_1); (try clear hc_2); (try clear hc_3); (try clear hf_1); (try clear hf_2); (try clear hf_3); (try clear HS); (try clear cS); (try clear AS); obtain ⟨AS, cS, HG, hg, HS⟩ := HI.out; have hc_0 := cellS62_0 HG; have hc_1 := cellS62_1 HG; have hc_2 := cellS62_2 HG; have hc_3 := cellS62_3 HG; have hf_1 := blk_frozen HG 1; have hf_2 := blk_frozen HG 2; have hf_3 := blk_frozen HG 3; clear hg HG) | (go_at_call 96; (with_reducible refine (wire_Reader_stop.calls g s _ _ _ _ _ _ _ _ w0 _ (by repeat (first | (with_reducible first | exact HI.out | apply IsS146.alloc | apply IsS146.drewN | apply IsS146.drew | apply IsS146.set_1 | apply IsS146.set_2 | apply IsS146.set_3) | exact HI.out)) (by repeat (first | (with_reducible first | exact HB.out | apply below_alloc | apply pw_below_drewN | apply below_drew1 | refine below_set ?_ (IsS146.ge HI.out)) | exact HB.out)) HST.out).mono ?_); rintro e w4 ⟨rfl, hi, hb, hk⟩; have n0_ := Aside0.mk (KeepBut.trans (by repeat (first | (with_reducible first | exact HK.out | apply KeepBut.set_ | apply keep_drewN | apply keep_drew | apply keep_alloc) | exact HK.out)) hk (.inl rfl)); have n1_ := Aside0.mk hb; have n2_ := Aside0.mk hi; clear HK; clear HB; clear HI; have HK := n0_; have HB := n1_; have HI := n2_; clear n0_ n1_ n2_; (try clear hb); (try clear hk); (try clear hi); (try clear hc_0); (try clear hc_1); (try clear hc_2); (try clear hc_3); (try clear hf_1); (try clear hf_2); (try clear hf_3); (try clear HS); (try clear cS); (try clear AS); obtain ⟨AS, cS, HG, hg, HS⟩ := HI.out; have hc_0 := cellS62_0 HG; have hc_1 := cellS62_1 HG; have hc_2 := cellS62_2 HG; have hc_3 := cellS62_3 HG; have hf_1 := blk_frozen HG 1; have hf_2 := blk_frozen HG 2; have hf_3 := blk_frozen HG 3; clear hg HG)))
        refine with_world (fun w' => IsS146 w0 w' g s (z : Int) 0 true ∧ Below w0.heap.size w0 w' ∧ KeepBut w w' g none) ⟨by repeat (first | (with_reducible first | exact HI.out | apply IsS146.alloc | apply IsS146.drewN | apply IsS146.drew | apply IsS146.set_1 | apply IsS146.set_2 | apply IsS146.set_3) | exact HI.out), by repeat (first | (with_reducible first | exact HB.out | apply below_alloc | apply pw_below_drewN | apply below_drew1 | refine below_set ?_ (IsS146.ge HI.out)) | exact HB.out), by repeat (first | (with_reducible first | exact HK.out | apply KeepBut.set_ | apply keep_drewN | apply keep_drew | apply keep_alloc) | exact HK.out)⟩ ?_
        (try clear hc_0); (try clear hc_1); (try clear hc_2); (try clear hc_3); (try clear hf_1); (try clear hf_2); (try clear hf_3); (try clear HS); (try clear cS); (try clear AS)
        clear HI HB HK
        rintro w5 ⟨hI, hB, hK⟩
        have HI := Aside0.mk hI
        have HB := Aside0.mk hB
        have HK := Aside0.mk hK
        have HBB := Aside0.mk (Below.refl w5.heap.size w5)
        clear hI hB hK
        obtain ⟨AS, cS, HG, hg, HS⟩ := HI.out; have hc_0 := cellS62_0 HG; have hc_1 := cellS62_1 HG; have hc_2 := cellS62_2 HG; have hc_3 := cellS62_3 HG; have hf_1 := blk_frozen HG 1; have hf_2 := blk_frozen HG 2; have hf_3 := blk_frozen HG 3; clear hg HG
        obtain ⟨A1, c1, hcut, hC1x, hC1l⟩ := cut_bytes AS cS s p n z HS.1 HS.2 HZ.out.1 HZ.out.2
        have HLY := Aside0.mk (show ((s.drop p).take n).length ≤ s.length by rw [List.length_take, List.length_drop]; omega)
        generalize hyy : (s.drop p).take n = y at HLY hcut hC1x hC1l
        have HYY := Aside0.mk hyy
        clear hyy
        have HC1x := Aside0.mk hC1x
        have HC1l := Aside0.mk hC1l
        clear hC1x hC1l HS
        obtain ⟨y1, Ny1⟩ : ∃ y_ : List Int, Aside0 (y_ = ([] : List Int)) := ⟨_, ⟨rfl⟩⟩
        have LMy := Aside0.mk (show y1.length + y.length < 140737488355328 by have h1 := HLN.out; have h2 := HLY.out; rw [Ny1.out]; simp only [List.length_nil]; omega)
        have Ny2 := Aside0.mk (show y = y1 ++ y by rw [Ny1.out]; rfl)
        refine start_ (n := 19) (S := fun w' => w'.cell? ⟨g, 0, none⟩ = some (.slice AS s.length cS) ∧ w'.cell? ⟨g, 1, none⟩ = some (.int .i64 (z : Int))) (ds := []) #[false, false, false, false, false, false, false, false, false, false, false, false, false, false, false, false, false, false, false] (by kernel_rfl) rfl rfl ⟨hc_0, hc_1⟩ (fun hHeld => ?_)
        refine pure_ (i := 1) (N := some 58) (v := ?_) (a' := ?_) #[false, true, false, false, false, false, false, false, false, false, false, false, false, false, false, false, false, false, false] rfl rfl (by kernel_rfl) (fun _ _ _ h => h) (Or.inl ⟨by rfl, ?_⟩) ?_ ?_
        rotate_left
        · intro w'
          go_simp
          with_reducible rfl
        rotate_left
        · simp only [Act.put, List.setIfInBounds_toArray, List.set_cons_zero, List.set_cons_succ, i64_w, i32_w]
          rfl
        refine pure_ (i := 2) (N := some 59) (v := ?_) (a' := ?_) #[false, true, true, false, false, false, false, false, false, false, false, false, false, false, false, false, false, false, false] rfl rfl (by kernel_rfl) (fun _ _ _ h => h) (Or.inl ⟨by rfl, ?_⟩) ?_ ?_
        rotate_left
        · intro w'
          go_simp
          with_reducible rfl
        rotate_left
        · simp only [Act.put, List.setIfInBounds_toArray, List.set_cons_zero, List.set_cons_succ, i64_w, i32_w]
          rfl
        refine pure_ (i := 3) (N := some 60) (v := ?_) (a' := ?_) #[false, true, true, true, false, false, false, false, false, false, false, false, false, false, false, false, false, false, false] rfl rfl (by kernel_rfl) (fun _ _ _ h => h) (Or.inl ⟨by rfl, ?_⟩) ?_ ?_
        rotate_left
        · intro w'
          go_simp
          with_reducible rfl
        rotate_left
        · simp only [Act.put, List.setIfInBounds_toArray, List.set_cons_zero, List.set_cons_succ, i64_w, i32_w]
          rfl
        refine pure_ (i := 5) (N := some 62) (v := ?_) (a' := ?_) #[false, true, true, true, false, true, false, false, false, false, false, false, false, false, false, false, false, false, false] rfl rfl (by kernel_rfl) (fun _ _ _ h => h) (Or.inl ⟨by rfl, ?_⟩) ?_ ?_
        rotate_left
        · intro w'
          go_simp
          with_reducible rfl
        rotate_left
        · simp only [Act.put, List.setIfInBounds_toArray, List.set_cons_zero, List.set_cons_succ, i64_w, i32_w]
          rfl
        refine pure_ (i := 6) (N := some 63) (v := ?_) (a' := ?_) #[false, true, true, true, false, true, true, false, false, false, false, false, false, false, false, false, false, false, false] rfl rfl (by kernel_rfl) (fun _ _ _ h => h) (Or.inl ⟨by rfl, ?_⟩) ?_ ?_
        rotate_left
        · intro w'
          go_simp
          with_reducible rfl
        rotate_left
        · simp only [Act.put, List.setIfInBounds_toArray, List.set_cons_zero, List.set_cons_succ, i64_w, i32_w]
          rfl
        refine pure_ (i := 7) (N := some 64) (v := ?_) (a' := ?_) #[false, true, true, true, false, true, true, true, false, false, false, false, false, false, false, false, false, false, false] rfl rfl (by kernel_rfl) (fun _ _ _ h => h) (Or.inl ⟨by rfl, ?_⟩) ?_ ?_
        rotate_left
        · intro w'
          go_simp
          with_reducible rfl
        rotate_left
        · simp only [Act.put, List.setIfInBounds_toArray, List.set_cons_zero, List.set_cons_succ, i64_w, i32_w]
          rfl
        refine pure_ (i := 9) (N := some 66) (v := ?_) (a' := ?_) #[false, true, true, true, false, true, true, true, false, true, false, false, false, false, false, false, false, false, false] rfl rfl (by kernel_rfl) (fun _ _ _ h => h) (Or.inl ⟨by rfl, ?_⟩) ?_ ?_
        rotate_left
        · intro w'
          go_simp
          with_reducible rfl
        rotate_left
        · simp only [Act.put, List.setIfInBounds_toArray, List.set_cons_zero, List.set_cons_succ, i64_w, i32_w]
          rfl
        refine pure_ (i := 10) (N := some 67) (v := ?_) (a' := ?_) #[false, true, true, true, false, true, true, true, false, true, true, false, false, false, false, false, false, false, false] rfl rfl (by kernel_rfl) (fun _ _ _ h => h) (Or.inl ⟨by rfl, ?_⟩) ?_ ?_
        rotate_left
        · intro w'
          go_simp
          with_reducible rfl
        rotate_left
        · simp only [Act.put, List.setIfInBounds_toArray, List.set_cons_zero, List.set_cons_succ, i64_w, i32_w]
          rfl
        refine pure_ (i := 12) (N := some 69) (v := ?_) (a' := ?_) #[false, true, true, true, false, true, true, true, false, true, true, false, true, false, false, false, false, false, false] rfl rfl (by kernel_rfl) (fun _ _ _ h => h) (Or.inl ⟨by rfl, ?_⟩) ?_ ?_
        rotate_left
        · intro w'
          go_simp
          with_reducible rfl
        rotate_left
        · simp only [Act.put, List.setIfInBounds_toArray, List.set_cons_zero, List.set_cons_succ, i64_w, i32_w]
          rfl
        refine pure_ (i := 13) (N := some 70) (v := ?_) (a' := ?_) #[false, true, true, true, false, true, true, true, false, true, true, false, true, true, false, false, false, false, false] rfl rfl (by kernel_rfl) (fun _ _ _ h => h) (Or.inl ⟨by rfl, ?_⟩) ?_ ?_
        rotate_left
        · intro w'
          go_simp
          with_reducible rfl
        rotate_left
        · simp only [Act.put, List.setIfInBounds_toArray, List.set_cons_zero, List.set_cons_succ, i64_w, i32_w]
          rfl
        refine pure_ (i := 14) (N := some 71) (v := ?_) (a' := ?_) #[false, true, true, true, false, true, true, true, false, true, true, false, true, true, true, false, false, false, false] rfl rfl (by kernel_rfl) (fun _ _ _ h => h) (Or.inl ⟨by rfl, ?_⟩) ?_ ?_
        rotate_left
        · intro w'
          go_simp
          with_reducible rfl
        rotate_left
        · simp only [Act.put, List.setIfInBounds_toArray, List.set_cons_zero, List.set_cons_succ, i64_w, i32_w]
          rfl
        refine take_ (i := 4) (N := some 61) (v := ?_) (a' := ?_) #[false, true, true, true, true, true, true, true, false, true, true, false, true, true, true, false, false, false, false] rfl rfl (by kernel_rfl) (fun _ _ _ h => h) (Or.inl ⟨by rfl, ?_⟩) hHeld ?_ ?_
        rotate_left
        · rintro w' ⟨s0, s1⟩
          go_simp
          with_reducible rfl
        rotate_left
        · simp only [Act.put, List.setIfInBounds_toArray, List.set_cons_zero, List.set_cons_succ, i64_w, i32_w]
          rfl
        refine take_ (i := 8) (N := some 65) (v := ?_) (a' := ?_) #[false, true, true, true, true, true, true, true, true, true, true, false, true, true, true, false, false, false, false] rfl rfl (by kernel_rfl) (fun _ _ _ h => h) (Or.inl ⟨by rfl, ?_⟩) hHeld ?_ ?_
        rotate_left
        · rintro w' ⟨s0, s1⟩
          go_simp
          with_reducible rfl
        rotate_left
        · simp only [Act.put, List.setIfInBounds_toArray, List.set_cons_zero, List.set_cons_succ, i64_w, i32_w]
          rfl
        refine pure_ (i := 11) (N := some 68) (v := ?_) (a' := ?_) #[false, true, true, true, true, true, true, true, true, true, true, true, true, true, true, false, false, false, false] rfl rfl (by kernel_rfl) (fun _ _ _ h => h) (Or.inl ⟨by rfl, ?_⟩) ?_ ?_
        rotate_left
        · intro w'
          go_simp
          with_reducible rfl
        rotate_left
        · simp only [Act.put, List.setIfInBounds_toArray, List.set_cons_zero, List.set_cons_succ, i64_w, i32_w]
          rfl
        refine take_ (i := 15) (N := some 72) (v := ?_) (a' := ?_) #[false, true, true, true, true, true, true, true, true, true, true, true, true, true, true, true, false, false, false] rfl rfl (by kernel_rfl) (fun _ _ _ h => h) (Or.inl ⟨by rfl, ?_⟩) hHeld ?_ ?_
        rotate_left
        · rintro w' ⟨s0, s1⟩
          go_simp
          with_reducible rfl
        rotate_left
        · simp only [Act.put, List.setIfInBounds_toArray, List.set_cons_zero, List.set_cons_succ, i64_w, i32_w]
          rfl
        refine pure_ (i := 16) (N := some 73) (v := ?_) (a' := ?_) #[false, true, true, true, true, true, true, true, true, true, true, true, true, true, true, true, true, false, false] rfl rfl (by kernel_rfl) (fun _ _ _ h => h) (Or.inl ⟨by rfl, ?_⟩) ?_ ?_
        rotate_left
        · intro w'
          go_simp
          with_reducible rfl
        rotate_left
        · simp only [Act.put, List.setIfInBounds_toArray, List.set_cons_zero, List.set_cons_succ, i64_w, i32_w]
          rfl
        refine one_ (i := 0) (N := some 57) #[true, true, true, true, true, true, true, true, true, true, true, true, true, true, true, true, true, false, false] rfl rfl (by kernel_rfl) (by decide) (fun K hK => ?_)
        refine Kd.R_lit_step (Kd.int .u8) _ 5 (by rfl) (N := 57) ?hd (xs := ([] : List Int)) (inner := []) (ok := fun k => k ≠ g) (okp := fun _ => False) ?hr ?hp (fun _ hk => hk.elim) (IsS146.fresh HI.out _ (below_size (by repeat (first | (with_reducible first | exact HBB.out | apply below_alloc | apply pw_below_drewN | apply below_drew1) | exact HBB.out)))) (Below.refl _ _) (Nat.le_refl _) (by simp) ?_
        case hd => rfl
        case hr => first | (go_simp; done) | (go_simp; rfl)
        case hp => exact (Reps.none _ _)
        intro va wa ho5 hb hg_ hnew_
        clear hg_ hnew_
        (first | rw [← Ny1.out] at ho5 | (simp only [Int.reduceToNat] at ho5; rw [← Ny1.out] at ho5))
        have n0_ := Aside0.mk (Kd.R_lower ho5 (below_size (by repeat (first | (with_reducible first | exact HBB.out | apply below_alloc | apply pw_below_drewN | apply below_drew1) | exact HBB.out))))
        have n1_ := Aside0.mk (below_step (by repeat (first | (with_reducible first | exact HBB.out | apply below_alloc | apply pw_below_drewN | apply below_drew1) | exact HBB.out)) hb)
        clear HBB
        have HOa := n0_
        have HBB := n1_
        clear n0_ n1_
        refine hK.out _ _ ⟨(hb.cell (World.block_lt_of_cell? _ _ hHeld.1)).trans hHeld.1, (hb.cell (World.block_lt_of_cell? _ _ hHeld.2)).trans hHeld.2⟩ (fun hHeld => ?_)
        clear hK K
        refine norm_ (a' := ?_) ?_ ?_
        rotate_left
        · show Act.put _ (some 57) _ = _
          simp only [Act.put, List.setIfInBounds_toArray, List.set_cons_zero, List.set_cons_succ, i64_w, i32_w]
          rfl
        refine one_ (i := 17) (N := some 74) #[true, true, true, true, true, true, true, true, true, true, true, true, true, true, true, true, true, true, false] rfl rfl (by kernel_rfl) (by decide) (fun K hK => ?_)
        refine Kd.R_append_rows_step (Kd.int .u8) (w0 := w5) w5.heap.size (by rfl) (.tmp 57) (.tmp 73) 32 5 (.int .u8 0) 1 (by rfl) Try.underlying32 info5 rfl (by decide) (by omega) va y1 y _ _ _ (fun k => k ≠ g) (fun _ => False) (by rfl) (by rfl) ?aO ?aR (fun _ _ h => h) (fun _ h => h.elim) ?aF ?aB ?aS ?aL ?_
        case aR => exact Kd.C_below (Kd.C_below HC1x.out HB.out) (by repeat (first | (with_reducible first | exact HBB.out | apply below_alloc | apply pw_below_drewN | apply below_drew1) | exact HBB.out))
        case aB => exact (by repeat (first | (with_reducible first | exact HBB.out | apply below_alloc | apply pw_below_drewN | apply below_drew1) | exact HBB.out))
        case aF => exact fun k hk => IsS146.fresh HI.out k (Nat.le_trans (below_size (by repeat (first | (with_reducible first | exact HBB.out | apply below_alloc | apply pw_below_drewN | apply below_drew1) | exact HBB.out))) hk)
        case aO => exact (by (with_reducible repeat (first | apply Kd.R_alloc | apply Kd.R_drewN | apply Kd.R_drew)); exact HOa.out)
        case aS => exact (below_size (by repeat (first | (with_reducible first | exact HBB.out | apply below_alloc | apply pw_below_drewN | apply below_drew1) | exact HBB.out)))
        case aL => have := LMy.out; omega
        intro vb w6 ho hb hg hat
        rw [← Ny2.out] at ho
        have n0_ := Aside0.mk hb
        have n1_ := Aside0.mk ho
        clear HBB HOa
        have HBB := n0_
        have HOa := n1_
        clear n0_ n1_
        refine hK.out _ _ ⟨(hb.cell (World.block_lt_of_cell? _ _ hc_0)).trans hc_0, (hb.cell (World.block_lt_of_cell? _ _ hc_1)).trans hc_1⟩ (fun hHeld => ?_)
        clear hK K
        refine norm_ (a' := ?_) ?_ ?_
        rotate_left
        · show Act.put _ (some 74) _ = _
          simp only [Act.put, List.setIfInBounds_toArray, List.set_cons_zero, List.set_cons_succ, i64_w, i32_w]
          rfl
        refine pure_ (i := 18) (N := some 4) (v := ?_) (a' := ?_) #[true, true, true, true, true, true, true, true, true, true, true, true, true, true, true, true, true, true, true] rfl rfl (by kernel_rfl) (fun _ _ _ h => h) (Or.inl ⟨by rfl, ?_⟩) ?_ ?_
        rotate_left
        · intro w'
          go_simp
          with_reducible rfl
        rotate_left
        · simp only [Act.put, List.setIfInBounds_toArray, List.set_cons_zero, List.set_cons_succ, i64_w, i32_w]
          rfl
        refine done_ (by kernel_rfl) ?_
        go_wp2
        go_ret
        exact ⟨vb, rfl, by rw [HYY.out]; exact Kd.R_lower HOa.out HK.out.1, IsS146.below HI.out HBB.out, below_step HB.out HBB.out, KeepBut.trans HK.out (KeepBut.of_below HBB.out g none) (.inl rfl)⟩
  · replace hN : wire_Reader_Number.f 36 s (at_ : Int) 0 true = some (0, (at_ : Int), e, true) := by rw [hN]; unfold res; rw [if_neg c0]
    have HN := Aside0.mk hN
    rw [if_pos c0]
    have c0b : (e != 0) = true := bne_iff_ne.mpr c0
    clear hN hok hmost
    go_enter Try.func81, Try.ntmps81
    obtain ⟨AS, cS, HG, hg, HS⟩ := HI.out; have hc_0 := cellS62_0 HG; have hc_1 := cellS62_1 HG; have hc_2 := cellS62_2 HG; have hc_3 := cellS62_3 HG; have hf_1 := blk_frozen HG 1; have hf_2 := blk_frozen HG 2; have hf_3 := blk_frozen HG 3; clear hg HG
    go_wp2_with (first | (go_at_call 95; (with_reducible refine (wire_Reader_Err.calls g s _ _ _ _ _ _ _ w0 _ (by repeat (first | (with_reducible first | exact HI.out | apply IsS146.alloc | apply IsS146.drewN | apply IsS146.drew | apply IsS146.set_1 | apply IsS146.set_2 | apply IsS146.set_3) | exact HI.out)) (by repeat (first | (with_reducible first | exact HB.out | apply below_alloc | apply pw_below_drewN | apply below_drew1 | refine below_set ?_ (IsS146.ge HI.out)) | exact HB.out)) HE.out).mono ?_); rintro e w4 ⟨rfl, hi, hb, hk⟩; have n0_ := Aside0.mk (KeepBut.trans (by repeat (first | (with_reducible first | exact HK.out | apply KeepBut.set_ | apply keep_drewN | apply keep_drew | apply keep_alloc) | exact HK.out)) hk (.inl rfl)); have n1_ := Aside0.mk hb; have n2_ := Aside0.mk hi; clear HK; clear HB; clear HI; have HK := n0_; have HB := n1_; have HI := n2_; clear n0_ n1_ n2_; (try clear hb); (try clear hk); (try clear hi); (try clear hc_0); (try clear hc_1); (try clear hc_2); (try clear hc_3); (try clear hf_1); (try clear hf_2); (try clear hf_3); (try clear HS); (try clear cS); (try clear AS); obtain ⟨AS, cS, HG, hg, HS⟩ := HI.out; have hc_0 := cellS62_0 HG; have hc_1 := cellS62_1 HG; have hc_2 := cellS62_2 HG; have hc_3 := cellS62_3 HG; have hf_1 := blk_frozen HG 1; have hf_2 := blk_frozen HG 2; have hf_3 := blk_frozen HG 3; clear hg HG) | (go_at_call 94; (with_reducible refine (wire_Reader_Number.calls 36 g s _ _ _ _ _ _ _ w0 _ (by repeat (first | (with_reducible first | exact HI.out | apply IsS146.alloc | apply IsS146.drewN | apply IsS146.drew | apply IsS146.set_1 | apply IsS146.set_2 | apply IsS146.set_3) | exact HI.out)) (by repeat (first | (with_reducible first | exact HB.out | apply below_alloc | apply pw_below_drewN | apply below_drew1 | refine below_set ?_ (IsS146.ge HI.out)) | exact HB.out)) HN.out).mono ?_); rintro e w4 ⟨rfl, hi, hb, hk⟩; have n0_ := Aside0.mk (KeepBut.trans (by repeat (first | (with_reducible first | exact HK.out | apply KeepBut.set_ | apply keep_drewN | apply keep_drew | apply keep_alloc) | exact HK.out)) hk (.inl rfl)); have n1_ := Aside0.mk hb; have n2_ := Aside0.mk hi; clear HK; clear HB; clear HI; have HK := n0_; have HB := n1_; have HI := n2_; clear n0_ n1_ n2_; (try clear hb); (try clear hk); (try clear hi); (try clear hc_0); (try clear hc_1); (try clear hc_2); (try clear hc_3); (try clear hf_1); (try clear hf_2); (try clear hf_3); (try clear HS); (try clear cS); (try clear AS); obtain ⟨AS, cS, HG, hg, HS⟩ := HI.out; have hc_0 := cellS62_0 HG; have hc_1 := cellS62_1 HG; have hc_2 := cellS62_2 HG; have hc_3 := cellS62_3 HG; have hf_1 := blk_frozen HG 1; have hf_2 := blk_frozen HG 2; have hf_3 := blk_frozen HG 3; clear hg HG) | (go_at_call 96; (with_reducible refine (wire_Reader_stop.calls g s _ _ _ _ _ _ _ _ w0 _ (by repeat (first | (with_reducible first | exact HI.out | apply IsS146.alloc | apply IsS146.drewN | apply IsS146.drew | apply IsS146.set_1 | apply IsS146.set_2 | apply IsS146.set_3) | exact HI.out)) (by repeat (first | (with_reducible first | exact HB.out | apply below_alloc | apply pw_below_drewN | apply below_drew1 | refine below_set ?_ (IsS146.ge HI.out)) | exact HB.out)) HST.out).mono ?_); rintro e w4 ⟨rfl, hi, hb, hk⟩; have n0_ := Aside0.mk (KeepBut.trans (by repeat (first | (with_reducible first | exact HK.out | apply KeepBut.set_ | apply keep_drewN | apply keep_drew | apply keep_alloc) | exact HK.out)) hk (.inl rfl)); have n1_ := Aside0.mk hb; have n2_ := Aside0.mk hi; clear HK; clear HB; clear HI; have HK := n0_; have HB := n1_; have HI := n2_; clear n0_ n1_ n2_; (try clear hb); (try clear hk); (try clear hi); (try clear hc_0); (try clear hc_1); (try clear hc_2); (try clear hc_3); (try clear hf_1); (try clear hf_2); (try clear hf_3); (try clear HS); (try clear cS); (try clear AS); obtain ⟨AS, cS, HG, hg, HS⟩ := HI.out; have hc_0 := cellS62_0 HG; have hc_1 := cellS62_1 HG; have hc_2 := cellS62_2 HG; have hc_3 := cellS62_3 HG; have hf_1 := blk_frozen HG 1; have hf_2 := blk_frozen HG 2; have hf_3 := blk_frozen HG 3; clear hg HG)); repeat (go_quiet (first | (go_at_call 95; (with_reducible refine (wire_Reader_Err.calls g s _ _ _ _ _ _ _ w0 _ (by repeat (first | (with_reducible first | exact HI.out | apply IsS146.alloc | apply IsS146.drewN | apply IsS146.drew | apply IsS146.set_1 | apply IsS146.set_2 | apply IsS146.set_3) | exact HI.out)) (by repeat (first | (with_reducible first | exact HB.out | apply below_alloc | apply pw_below_drewN | apply below_drew1 | refine below_set ?_ (IsS146.ge HI.out)) | exact HB.out)) HE.out).mono ?_); rintro e w4 ⟨rfl, hi, hb, hk⟩; have n0_ := Aside0.mk (KeepBut.trans (by repeat (first | (with_reducible first | exact HK.out | apply KeepBut.set_ | apply keep_drewN | apply keep_drew | apply keep_alloc) | exact HK.out)) hk (.inl rfl)); have n1_ := Aside0.mk hb; have n2_ := Aside0.mk hi; clear HK; clear HB; clear HI; have HK := n0_; have HB := n1_; have HI := n2_; clear n0_ n1_ n2_; (try clear hb); (try clear hk); (try clear hi); (try clear hc_0); (try clear hc_1); (try clear hc_2); (try clear hc_3); (try clear hf_1); (try clear hf_2); (try clear hf_3); (try clear HS); (try clear cS); (try clear AS); obtain ⟨AS, cS, HG, hg, HS⟩ := HI.out; have hc_0 := cellS62_0 HG; have hc_1 := cellS62_1 HG; have hc_2 := cellS62_2 HG; have hc_3 := cellS62_3 HG; have hf_1 := blk_frozen HG 1; have hf_2 := blk_frozen HG 2; have hf_3 := blk_frozen HG 3; clear hg HG) | (go_at_call 94; (with_reducible refine (wire_Reader_Number.calls 36 g s _ _ _ _ _ _ _ w0 _ (by repeat (first | (with_reducible first | exact HI.out | apply IsS146.alloc | apply IsS146.drewN | apply IsS146.drew | apply IsS146.set_1 | apply IsS146.set_2 | apply IsS146.set_3) | exact HI.out)) (by repeat (first | (with_reducible first | exact HB.out | apply below_alloc | apply pw_below_drewN | apply below_drew1 | refine below_set ?_ (IsS146.ge HI.out)) | exact HB.out)) HN.out).mono ?_); rintro e w4 ⟨rfl, hi, hb, hk⟩; have n0_ := Aside0.mk (KeepBut.trans (by repeat (first | (with_reducible first | exact HK.out | apply KeepBut.set_ | apply keep_drewN | apply keep_drew | apply keep_alloc) | exact HK.out)) hk (.inl rfl)); have n1_ := Aside0.mk hb; have n2_ := Aside0.mk hi; clear HK; clear HB; clear HI; have HK := n0_; have HB := n1_; have HI := n2_; clear n0_ n1_ n2_; (try clear hb); (try clear hk); (try clear hi); (try clear hc_0); (try clear hc_1); (try clear hc_2); (try clear hc_3); (try clear hf_1); (try clear hf_2); (try clear hf_3); (try clear HS); (try clear cS); (try clear AS); obtain ⟨AS, cS, HG, hg, HS⟩ := HI.out; have hc_0 := cellS62_0 HG; have hc_1 := cellS62_1 HG; have hc_2 := cellS62_2 HG; have hc_3 := cellS62_3 HG; have hf_1 := blk_frozen HG 1; have hf_2 := blk_frozen HG 2; have hf_3 := blk_frozen HG 3; clear hg HG) | (go_at_call 96; (with_reducible refine (wire_Reader_stop.calls g s _ _ _ _ _ _ _ _ w0 _ (by repeat (first | (with_reducible first | exact HI.out | apply IsS146.alloc | apply IsS146.drewN | apply IsS146.drew | apply IsS146.set_1 | apply IsS146.set_2 | apply IsS146.set_3) | exact HI.out)) (by repeat (first | (with_reducible first | exact HB.out | apply below_alloc | apply pw_below_drewN | apply below_drew1 | refine below_set ?_ (IsS146.ge HI.out)) | exact HB.out)) HST.out).mono ?_); rintro e w4 ⟨rfl, hi, hb, hk⟩; have n0_ := Aside0.mk (KeepBut.trans (by repeat (first | (with_reducible first | exact HK.out | apply KeepBut.set_ | apply keep_drewN | apply keep_drew | apply keep_alloc) | exact HK.out)) hk (.inl rfl)); have n1_ := Aside0.mk hb; have n2_ := Aside0.mk hi; clear HK; clear HB; clear HI; have HK := n0_; have HB := n1_; have HI := n2_; clear n0_ n1_ n2_; (try clear hb); (try clear hk); (try clear hi); (try clear hc_0); (try clear hc_1); (try clear hc_2); (try clear hc_3); (try clear hf_1); (try clear hf_2); (try clear hf_3); (try clear HS); (try clear cS); (try clear AS); obtain ⟨AS, cS, HG, hg, HS⟩ := HI.out; have hc_0 := cellS62_0 HG; have hc_1 := cellS62_1 HG; have hc_2 := cellS62_2 HG; have hc_3 := cellS62_3 HG; have hf_1 := blk_frozen HG 1; have hf_2 := blk_frozen HG 2; have hf_3 := blk_frozen HG 3; clear hg HG)); try go_wp2_with (first | (go_at_call 95; (with_reducible refine (wire_Reader_Err.calls g s _ _ _ _ _ _ _ w0 _ (by repeat (first | (with_reducible first | exact HI.out | apply IsS146.alloc | apply IsS146.drewN | apply IsS146.drew | apply IsS146.set_1 | apply IsS146.set_2 | apply IsS146.set_3) | exact HI.out)) (by repeat (first | (with_reducible first | exact HB.out | apply below_alloc | apply pw_below_drewN | apply below_drew1 | refine below_set ?_ (IsS146.ge HI.out)) | exact HB.out)) HE.out).mono ?_); rintro e w4 ⟨rfl, hi, hb, hk⟩; have n0_ := Aside0.mk (KeepBut.trans (by repeat (first | (with_reducible first | exact HK.out | apply KeepBut.set_ | apply keep_drewN | apply keep_drew | apply keep_alloc) | exact HK.out)) hk (.inl rfl)); have n1_ := Aside0.mk hb; have n2_ := Aside0.mk hi; clear HK; clear HB; clear HI; have HK := n0_; have HB := n1_; have HI := n2_; clear n0_ n1_ n2_; (try clear hb); (try clear hk); (try clear hi); (try clear hc_0); (try clear hc_1); (try clear hc_2); (try clear hc_3); (try clear hf_1); (try clear hf_2); (try clear hf_3); (try clear HS); (try clear cS); (try clear AS); obtain ⟨AS, cS, HG, hg, HS⟩ := HI.out; have hc_0 := cellS62_0 HG; have hc_1 := cellS62_1 HG; have hc_2 := cellS62_2 HG; have hc_3 := cellS62_3 HG; have hf_1 := blk_frozen HG 1; have hf_2 := blk_frozen HG 2; have hf_3 := blk_frozen HG 3; clear hg HG) | (go_at_call 94; (with_reducible refine (wire_Reader_Number.calls 36 g s _ _ _ _ _ _ _ w0 _ (by repeat (first | (with_reducible first | exact HI.out | apply IsS146.alloc | apply IsS146.drewN | apply IsS146.drew | apply IsS146.set_1 | apply IsS146.set_2 | apply IsS146.set_3) | exact HI.out)) (by repeat (first | (with_reducible first | exact HB.out | apply below_alloc | apply pw_below_drewN | apply below_drew1 | refine below_set ?_ (IsS146.ge HI.out)) | exact HB.out)) HN.out).mono ?_); rintro e w4 ⟨rfl, hi, hb, hk⟩; have n0_ := Aside0.mk (KeepBut.trans (by repeat (first | (with_reducible first | exact HK.out | apply KeepBut.set_ | apply keep_drewN | apply keep_drew | apply keep_alloc) | exact HK.out)) hk (.inl rfl)); have n1_ := Aside0.mk hb; have n2_ := Aside0.mk hi; clear HK; clear HB; clear HI; have HK := n0_; have HB := n1_; have HI := n2_; clear n0_ n1_ n2_; (try clear hb); (try clear hk); (try clear hi); (try clear hc_0); (try clear hc_1); (try clear hc_2); (try clear hc_3); (try clear hf_1); (try clear hf_2); (try clear hf_3); (try clear HS); (try clear cS); (try clear AS); obtain ⟨AS, cS, HG, hg, HS⟩ := HI.out; have hc_0 := cellS62_0 HG; have hc_1 := cellS62_1 HG; have hc_2 := cellS62_2 HG; have hc_3 := cellS62_3 HG; have hf_1 := blk_frozen HG 1; have hf_2 := blk_frozen HG 2; have hf_3 := blk_frozen HG 3; clear hg HG) | (go_at_call 96; (with_reducible refine (wire_Reader_stop.calls g s _ _ _ _ _ _ _ _ w0 _ (by repeat (first | (with_reducible first | exact HI.out | apply IsS146.alloc | apply IsS146.drewN | apply IsS146.drew | apply IsS146.set_1 | apply IsS146.set_2 | apply IsS146.set_3) | exact HI.out)) (by repeat (first | (with_reducible first | exact HB.out | apply below_alloc | apply pw_below_drewN | apply below_drew1 | refine below_set ?_ (IsS146.ge HI.out)) | exact HB.out)) HST.out).mono ?_); rintro e w4 ⟨rfl, hi, hb, hk⟩; have n0_ := Aside0.mk (KeepBut.trans (by repeat (first | (with_reducible first | exact HK.out | apply KeepBut.set_ | apply keep_drewN | apply keep_drew | apply keep_alloc) | exact HK.out)) hk (.inl rfl)); have n1_ := Aside0.mk hb; have n2_ := Aside0.mk hi; clear HK; clear HB; clear HI; have HK := n0_; have HB := n1_; have HI := n2_; clear n0_ n1_ n2_; (try clear hb); (try clear hk); (try clear hi); (try clear hc_0); (try clear hc_1); (try clear hc_2); (try clear hc_3); (try clear hf_1); (try clear hf_2); (try clear hf_3); (try clear HS); (try clear cS); (try clear AS); obtain ⟨AS, cS, HG, hg, HS⟩ := HI.out; have hc_0 := cellS62_0 HG; have hc_1 := cellS62_1 HG; have hc_2 := cellS62_2 HG; have hc_3 := cellS62_3 HG; have hf_1 := blk_frozen HG 1; have hf_2 := blk_frozen HG 2; have hf_3 := blk_frozen HG 3; clear hg HG)))
    go_ret
    exact ⟨_, rfl, Kd.R_nil _ _ _ _ _, by repeat (first | (with_reducible first | exact HI.out | apply IsS146.alloc | apply IsS146.drewN | apply IsS146.drew | apply IsS146.set_1 | apply IsS146.set_2 | apply IsS146.set_3) | exact HI.out), by repeat (first | (with_reducible first | exact HB.out | apply below_alloc | apply pw_below_drewN | apply below_drew1 | refine below_set ?_ (IsS146.ge HI.out)) | exact HB.out), by repeat (first | (with_reducible first | exact HK.out | apply KeepBut.set_ | apply keep_drewN | apply keep_drew | apply keep_alloc) | exact HK.out)⟩
end Go.Proofs.Ytehjbhnlbjbhfaa.Wire
