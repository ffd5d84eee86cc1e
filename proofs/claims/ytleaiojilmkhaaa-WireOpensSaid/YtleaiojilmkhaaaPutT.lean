import Derived.Test.YtleaiojilmkhaaaProg
import Derived.Test.YtleaiojilmkhaaaWMore
import Derived.ArgAppend
import Derived.Laws.BitsLemmas
import Derived.Laws.Rows
import Derived.WalkKit
import Derived.KernelRfl
import Derived.RowKit3
import Derived.Deep.LoopGhost
import Derived.Deep.QuietTactic
import Derived.BigQuiet
import Derived.WideLaws
import Derived.Outline
namespace Go.Proofs.Ytleaiojilmkhaaa.Wire
open Go Go.RowKit Go.Proofs.YtleaiojilmkhaaaW.PrintWords Go.Proofs.YtleaiojilmkhaaaW.PrintLast Go.Proofs.YtleaiojilmkhaaaW.PrintMore
set_option linter.unusedVariables false
theorem info5 : (Try.prog.info? 5).map (fun i => (i.zero, i.size, i.bytes)) = some (some (.int .u8 0), 1, 1) := by kernel_rfl
/-- A number's bytes, seven bits a byte, the lowest first. -/
def enc : Nat → Nat → List Int
  | 0, n => [(n : Int)]
  | f + 1, n => if n < 128 then [(n : Int)] else (128 + n % 128 : Int) :: enc f (n / 128)
theorem enc_ne (f n : Nat) : enc f n ≠ [] := by
  cases f with
  | zero => simp [enc]
  | succ f => unfold enc; split <;> simp
theorem enc_len (f : Nat) : ∀ n, (enc f n).length ≤ f + 1 := by
  induction f with
  | zero => intro n; simp [enc]
  | succ f ih => intro n; unfold enc; split
                 · simp
                 · have := ih (n / 128); simp; omega
def encs (l : List Int) : List Int := l.flatMap fun n => enc 9 n.toNat
theorem encs_len (l : List Int) : (encs l).length ≤ 10 * l.length := by
  induction l with
  | nil => simp [encs]
  | cons a l ih =>
    have := enc_len 9 a.toNat
    unfold encs at *
    rw [List.flatMap_cons, List.length_append, List.length_cons]; omega
theorem encs_snoc (l : List Int) (a : Int) : encs (l ++ [a]) = encs l ++ enc 9 a.toNat := by unfold encs; rw [List.flatMap_append]; simp
theorem encs_take (l : List Int) (j : Nat) (h : j < l.length) : encs (l.take (j + 1)) = encs (l.take j) ++ enc 9 (rd l j).toNat := by
  rw [List.take_succ_eq_append_getElem h, encs_snoc]
  have : l[j] = rd l (j : Int) := by unfold rd; rw [Int.toNat_natCast, List.getD_eq_getElem?_getD, List.getElem?_eq_getElem h]; rfl
  rw [this]
theorem encs_nil {l : List Int} (h : encs l = []) : l = [] := by
  cases l with
  | nil => rfl
  | cons a l =>
    unfold encs at h
    rw [List.flatMap_cons] at h
    exact absurd (List.append_eq_nil_iff.1 h).1 (enc_ne _ _)
theorem or128 : ∀ a : Nat, a < 256 → Go.bits .or .u8 (a : Int) 128 = ((128 + a % 128 : Nat) : Int) := by decide +kernel
/-- A slice that is full (what came in, cut at its length), or a row of the call's own. -/
def OnO (A : Option Addr) (l : List Int) (W : World) (base : Nat) (v : Value) (xs : List Int) : Prop :=
  (v = .slice A l.length l.length ∧ xs = l ∧ Kd.C (Kd.int .u8) W A l.length l ∧ (A = none → l = [])) ∨ Kd.R (Kd.int .u8) 5 W base (fun _ => True) v xs
theorem OnO.slice {A : Option Addr} {l : List Int} {W : World} {base : Nat} {v : Value} {xs : List Int} (h : OnO A l W base v xs) : ∃ A' c, v = .slice A' xs.length c := by
  rcases h with ⟨rfl, rfl, _, _⟩ | h
  · exact ⟨_, _, rfl⟩
  · exact Kd.R_slice h
theorem OnO.below {A : Option Addr} {l : List Int} {W W1 : World} {base : Nat} {v : Value} {xs : List Int} (h : OnO A l W base v xs) (hb : Below W.heap.size W W1) : OnO A l W1 base v xs := by
  rcases h with ⟨h1, h2, h3, h4⟩ | h
  · exact .inl ⟨h1, h2, Kd.C_below h3 hb, h4⟩
  · exact .inr (Kd.R_below h hb)
theorem append_on {ops : Array Oper} {rest : List Oper} {o : Oper} {a : Act} {Q : Exit → Act → World → Prop} {w0 W : World} (base : Nat) (hgd : o.guard = none) (s x : Operand)
    (ho : o.op = .call { callee := .builtin .append, args := #[s, x], argTypes := #[22, 22] }) (A : Option Addr) (l : List Int) (v : Value) (xs : List Int) (p : Int) (hs : a.eval s = v) (hx : a.eval x = .slice (some ⟨W.heap.size, 0, none⟩) 1 1)
    (HO : OnO A l W base v xs) (HB : Below base w0 W) (hbase : base ≤ W.heap.size) (hl : xs.length + 1 ≤ 140737488355328)
    (h : ∀ v1 w1, Kd.R (Kd.int .u8) 5 w1 base (fun _ => True) v1 (xs ++ [p]) → Below base w0 w1 → wpList Try.prog ops Q rest (a.put o.dst v1) w1) :
    wpList Try.prog ops Q (o :: rest) a (W.alloc (.cells #[.int .u8 p] 5)) := by
  rcases HO with ⟨rfl, rfl, hC, hn⟩ | HR
  · obtain ⟨i0, hi, hz0, hz1, hz2⟩ := info_parts info5
    have hsz : (W.alloc (.cells #[.int .u8 p] 5)).heap.size = W.heap.size + 1 := by simp
    have hb1 := HB.alloc hbase (.cells #[.int .u8 p] 5)
    refine wpList_append_grows (W.alloc (.cells #[.int .u8 p] 5)) hgd s x 22 ho 5 i0 (.int .u8 0) 1 1 Try.underlying22 hi hz0 hz1 hz2 rfl (by decide) A xs.length xs.length (nums .u8 xs) hs (fun e => by rw [hn e]; exact ⟨rfl, rfl⟩) (by simp [nums]) ?_ ⟨W.heap.size, 0, none⟩ 1 1 [.int .u8 p] hx rfl ?_ (by simp [Value.oneCell']) (by omega) (by unfold maxLen; omega) (by omega) ?_
    · intro b e j u hj
      subst e
      have hlt : j < xs.length := by have := (List.getElem?_eq_some_iff.1 hj).1; simpa [nums] using this
      obtain ⟨ad, e2, hc⟩ := Kd.at_int hC (j : Int) (by omega) (by omega)
      cases e2
      rw [Int.toNat_natCast] at hc
      have hu : u = .int .u8 (rd xs (j : Int)) := by
        simp only [nums, List.getElem?_map, List.getElem?_eq_getElem hlt, Option.map_some, Option.some.injEq] at hj
        rw [← hj]; unfold rd; rw [Int.toNat_natCast, List.getD_eq_getElem?_getD, List.getElem?_eq_getElem hlt]; rfl
      rw [hu]
      exact (World.cell?_alloc_lt _ _ _ (World.block_lt_of_cell? W _ hc)).trans hc
    · intro j u hj
      have : j = 0 := by have := (List.getElem?_eq_some_iff.1 hj).1; simp at this; omega
      subst this
      simp at hj
      subst hj
      rw [add_plain]
      simp
    · intro v1 w1 hown hg
      refine h v1 w1 (Kd.R_of_own (enc := Value.int .u8) (h1 := fun _ => rfl) ?_ (fun _ _ => trivial)) (hb1.grown hg (by omega) (fun k hk => by cases hk))
      have := own_weaken hown (base' := base) (by omega)
      show w1.ownsRow base 5 1 v1 (xs ++ [p]).length (Go.Proofs.YtleaiojilmkhaaaW.PrintWords.encs (Value.int .u8) (xs ++ [p]))
      rw [List.length_append]
      simpa [nums, Go.Proofs.YtleaiojilmkhaaaW.PrintWords.encs] using this
  · refine Kd.R_append (Kd.int .u8) (w0 := w0) base hgd s x 22 5 (.int .u8 0) 1 ho Try.underlying22 info5 rfl (by decide) (by omega) v xs p [.int .u8 p] (fun _ => True) (fun _ => False) hs hx rfl (fun _ hk => hk.elim) (fun _ _ => trivial) HR HB hbase (by omega) ?_
    intro v1 w1 h1 h2 _ _
    exact h v1 w1 h1 h2

set_option maxHeartbeats 2000000 in
set_option maxRecDepth 100000 in
theorem Put_any (A0 : Option Addr) (c0 : Nat) (l0 : List Int) (A1 : Option Addr) (c1 : Nat) (l1 : List Int) (w : World) (hr0 : Kd.C (Kd.int .u8) w A0 l0.length l0) (hc0 : l0.length ≤ c0) (hr1 : Kd.C (Kd.int .u64) w A1 l1.length l1) (hc1 : l1.length ≤ c1)
    (hn : A0 = none → l0 = []) (hb1 : ∀ x ∈ l1, 0 ≤ x ∧ x < 18446744073709551616) (hlen : l0.length + 10 * l1.length < 140737488355328) :
    Calls Try.prog 25 #[.slice A0 l0.length c0, .slice A1 l1.length c1] w fun e w' => ∃ v, e = .returned v ∧ OnO A0 l0 w' w.heap.size v (l0 ++ encs l1) ∧ Below w.heap.size w w' := by
  have HR0 := Aside0.mk hr0
  have HC0 := Aside0.mk hc0
  have HR1 := Aside0.mk hr1
  have HC1 := Aside0.mk hc1
  have HN := Aside0.mk hn
  have HB1 := Aside0.mk hb1
  clear hr0 hr1 hc1 hn hb1
  have hm1 := HR1.out.2.1
  go_enter Try.func25, Try.ntmps25
  go_wp2
  go_loopw [0, 15] (fun v0 v15 wr => ∃ j : Nat, j ≤ l1.length ∧ v15 = .int .i64 (j : Int) ∧ Aside0 (OnO A0 l0 wr w.heap.size v0 (l0 ++ encs (l1.take j))) ∧ Aside0 (Below w.heap.size w wr)) (fun _ v15 _ => (l1.length - intOf v15).toNat)
  case atStart => exact ⟨0, by omega, rfl, ⟨.inl ⟨rfl, by simp [encs], HR0.out, HN.out⟩⟩, ⟨Below.refl _ _⟩⟩
  case round =>
    obtain ⟨j, hj, rfl, HO, HB⟩ := hrel
    by_cases hlt : j < l1.length
    · obtain ⟨ad, e0, hx⟩ := Kd.at_int HR1.out (j : Int) (by omega) (by omega)
      cases e0
      replace hx := (HB.out.cell (World.block_lt_of_cell? w _ hx)).trans hx
      rw [Int.toNat_natCast] at hx
      have hmem : rd l1 (j : Int) ∈ l1 := by unfold rd; rw [Int.toNat_natCast, List.getD_eq_getElem?_getD, List.getElem?_eq_getElem hlt]; exact List.getElem_mem hlt
      obtain ⟨hp0, hp1⟩ := HB1.out _ hmem
      have HT := Aside0.mk (encs_take l1 j hlt)
      have HTL := Aside0.mk (encs_len (l1.take j))
      have htl : (l1.take j).length ≤ j := List.length_take_le _ _
      clear hmem
      generalize rd l1 (j : Int) = y at *
      obtain ⟨n, rfl⟩ := Int.eq_ofNat_of_zero_le hp0
      rw [Int.toNat_natCast] at HT
      obtain ⟨wo, rfl⟩ : ∃ wo : World, wo = wr := ⟨_, rfl⟩
      go_wp2
      go_loopw [0, 6] (fun v0 v6 wr => ∃ (f m : Nat) (acc : List Int), v6 = .int .u64 (m : Int) ∧ m < 18446744073709551616 ∧ Aside0 (m < 128 ^ (f + 1) ∧ acc.length + (enc f m).length ≤ l0.length + 10 * l1.length ∧ acc ++ enc f m = l0 ++ encs (l1.take (j + 1))) ∧ Aside0 (OnO A0 l0 wr w.heap.size v0 acc) ∧ Aside0 (Below w.heap.size w wr)) (fun _ v6 _ => (intOf v6).toNat)
      case atStart => exact ⟨9, n, l0 ++ encs (l1.take j), rfl, by omega, ⟨by omega, by have h1 := HTL.out; have h2 := enc_len 9 n; rw [List.length_append]; omega, by rw [HT.out, List.append_assoc]⟩, HO, HB⟩
      case round =>
        obtain ⟨f, m, acc, rfl, hm, HF, HO, HB⟩ := hrel
        have HM := Aside0.mk hm
        clear hm
        have HLEN := Aside0.mk (show acc.length + 1 ≤ 140737488355328 by have h1 := HF.out.2.1; have h2 := List.length_pos_iff.2 (enc_ne f m); omega)
        have HJ := Aside0.mk hj
        have HLT := Aside0.mk hlt
        have HL1 := Aside0.mk hm1
        clear hp0 hp1 hx htl hlt hj hm1 hlen hc0
        by_cases hge : m < 128
        · have d1 : decide ((128 : Int) ≤ (m : Int)) = false := decide_eq_false (by omega)
          have HGE := Aside0.mk hge
          clear hge
          go_wp2_with (first | ((with_reducible refine gate_builtin (b := .append) (xs := #[.tmp 29, .tmp 32]) rfl ?_); at_builtin; refine append_on w.heap.size rfl (.tmp 29) (.tmp 32) rfl A0 l0 _ acc _ rfl rfl HO.out HB.out ?hb ?hl ?_; (case hb => exact HB.out.size); (case hl => exact HLEN.out); intro v1 w1 h1 h2; have HO1 := Aside0.mk h1; have HB1 := Aside0.mk h2; clear h1 h2))
          have hw : wrap64 ((j : Int) + 1) = ((j + 1 : Nat) : Int) := by
            have := HLT.out; have := HL1.out
            unfold wrap64; omega
          rw [hw]
          refine ⟨⟨j + 1, HLT.out, rfl, ⟨.inr ?_⟩, HB1⟩, ?_⟩
          · have h3 := HO1.out
            have h4 := HF.out.2.2
            have h5 : enc f m = [((m : Int)) % 256] := by
              have := HGE.out
              rw [show (m : Int) % 256 = m by omega]
              cases f with
              | zero => rfl
              | succ f => unfold enc; rw [if_pos this]
            rw [h5] at h4
            rw [← h4]; exact h3
          · simp only [intOf]; have := HLT.out; omega
        · have d1 : decide ((128 : Int) ≤ (m : Int)) = true := decide_eq_true (by omega)
          have HGE := Aside0.mk hge
          clear hge
          go_wp2_with (first | ((with_reducible refine gate_builtin (b := .append) (xs := #[.tmp 21, .tmp 25]) rfl ?_); at_builtin; refine append_on w.heap.size rfl (.tmp 21) (.tmp 25) rfl A0 l0 _ acc _ rfl rfl HO.out HB.out ?hb ?hl ?_; (case hb => exact HB.out.size); (case hl => exact HLEN.out); intro v1 w1 h1 h2; have HO1 := Aside0.mk h1; have HB1 := Aside0.mk h2; clear h1 h2))
          obtain ⟨f, rfl⟩ : ∃ f', f = f' + 1 := by
            cases f with
            | zero => exact absurd HF.out.1 (by have := HGE.out; omega)
            | succ f' => exact ⟨f', rfl⟩
          have h5 : enc (f + 1) m = (128 + (m : Int) % 128) :: enc f (m / 128) := by
            have := HGE.out
            show (if m < 128 then _ else _) = _
            rw [if_neg this]
          have h6 : Go.bits .or .u8 ((m : Int) % 256) 128 = 128 + (m : Int) % 128 := by
            have h := or128 (m % 256) (Nat.mod_lt _ (by decide))
            rw [show ((m % 256 : Nat) : Int) = (m : Int) % 256 by omega] at h
            rw [h]; omega
          have h4 := HF.out
          rw [h5] at h4
          refine ⟨⟨f, m / 128, acc ++ [128 + (m : Int) % 128], by rw [show ((m / 128 : Nat) : Int) = (m : Int) / 128 by omega], ?_, ⟨?_, ?_, ?_⟩, ⟨.inr ?_⟩, HB1⟩, ?_⟩
          · have := HM.out; omega
          · have h7 := h4.1
            rw [Nat.pow_succ] at h7
            exact (Nat.div_lt_iff_lt_mul (by decide)).2 h7
          · have h7 := h4.2.1
            simp only [List.length_append, List.length_cons, List.length_nil] at h7 ⊢; omega
          · have h7 := h4.2.2
            rw [List.append_assoc]; exact h7
          · have h3 := HO1.out
            rw [h6] at h3; exact h3
          · simp only [intOf]; have := HGE.out; omega
    · have HT := Aside0.mk (show l1.take j = l1 from List.take_of_length_le (by omega))
      rw [HT.out] at HO
      go_wp2
      go_ret
      exact ⟨_, rfl, HO.out, HB.out⟩
end Go.Proofs.Ytleaiojilmkhaaa.Wire
