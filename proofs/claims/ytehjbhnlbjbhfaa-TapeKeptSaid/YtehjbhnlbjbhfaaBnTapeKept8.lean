/- Texts that the row of LawTapeKept rests on, part 8 of 12: contracts of the functions, their walks, plain laws. -/
import Derived.Test.YtehjbhnlbjbhfaaBnTapeKept7
import Derived.Lib.SlBytesConst
-- DkS
namespace Go.Proofs.Ytehjbhnlbjbhfaa.Dk
open Go Go.RowKit Go.Proofs.YtehjbhnlbjbhfaaW.PrintWords Go.Proofs.YtehjbhnlbjbhfaaW.PrintLast Go.Proofs.YtehjbhnlbjbhfaaW.PrintMore
open Go.Proofs.Ytehjbhnlbjbhfaa.PDiskBegins
attribute [local go_sem] max2_int min2_int max_two min_two
set_option linter.unusedVariables false
set_option linter.unusedSimpArgs false
def aw0 : DS := newP 100
def aw1 : DS := (appendP aw0 0 [97, 98]).1
theorem ok0 : Okk aw0 := newP_okk 100 (by decide)
theorem ok1 : Okk aw1 := ok0.append _ _
theorem lit_row {G : Nat → Prop} (k : IntKind) (W : World) (xs : List Int) (e : TypeId) (fr : Nat × Nat) (hG : ∀ b, G b → b < W.heap.size) (hm : xs.length ≤ 9223372036854775807) : Rw G k (W.alloc (.cells (xs.map (Value.int k)).toArray e fr)) (.slice (some ⟨W.heap.size, 0, none⟩) xs.length xs.length) xs := by
  refine Kd.V_mk (Nat.le_refl _) ?_
  intro W' hW
  have h1 := (hW W.heap.size (fun h => by have := hG _ h; omega) (by simp)).trans (blk_new W (.cells (xs.map (Value.int k)).toArray e fr))
  refine ⟨rfl, hm, fun _ => ⟨_, rfl, fun j p hj => ⟨[.int k p], rfl, rfl, fun i u hi => ?_⟩⟩⟩
  have hi0 : i = 0 := by
    have := (List.getElem?_eq_some_iff.1 hi).1
    simp at this; exact this
  subst hi0
  injection hi with hi
  subst hi
  have ha : (⟨W.heap.size, 0, none⟩ : Addr).add (j * (Kd.int k).sz + 0) = ⟨W.heap.size, j, none⟩ := by
    rw [add_at, show (Kd.int k).sz = 1 from rfl]; simp
  rw [ha, cell_of_row W' W.heap.size j _ e fr h1, List.getElem?_toArray, List.getElem?_map, hj]
  rfl
end Go.Proofs.Ytehjbhnlbjbhfaa.Dk
-- DkT
namespace Go.Proofs.Ytehjbhnlbjbhfaa.Dk
open Go Go.RowKit Go.Proofs.YtehjbhnlbjbhfaaW.PrintWords Go.Proofs.YtehjbhnlbjbhfaaW.PrintLast Go.Proofs.YtehjbhnlbjbhfaaW.PrintMore
open Go.Proofs.Ytehjbhnlbjbhfaa.PDiskBegins
set_option linter.unusedVariables false
set_option linter.unusedSimpArgs false
def Small (x : S35) : Prop := x.f3.length ≤ 16384 ∧ x.f4.length ≤ 16384
theorem mn_nn (a : Nat) : 0 ≤ mn (a : Int) 16385 ∧ mn (a : Int) 16385 ≤ 16385 ∧ (mn (a : Int) 16385 ≤ 16384 → a ≤ 16384) := by
  unfold mn
  split <;> omega
def bsum (l : List S35) : Nat := (l.map fun x => x.f3.length).sum
theorem bsum_drop (l : List S35) {i : Nat} (h : i < l.length) : bsum (l.drop i) = (rd_T35 l (i : Int)).f3.length + bsum (l.drop (i + 1)) := by
  unfold bsum rd_T35
  rw [List.drop_eq_getElem_cons h, List.map_cons, List.sum_cons, Int.toNat_natCast, List.getD_eq_getElem?_getD, List.getElem?_eq_getElem h]; rfl
theorem inner (x8 : List (List S35)) (x9 x10 : Int) (l : List S35) (hl : l.length ≤ 9223372036854775807) : ∀ (d i : Nat) (n acts : Int), i + d = l.length → 0 ≤ n → n ≤ 49154 → 0 ≤ acts → acts ≤ 151 →
    ∃ n' acts' : Int, n ≤ n' ∧ n' ≤ 49154 ∧ acts ≤ acts' ∧ acts' ≤ 151 ∧ (n' ≤ 16384 → acts' ≤ 150 → ∀ j, i ≤ j → j < l.length → Small (rd_T35 l (j : Int))) ∧ (n' ≤ 16384 → acts' ≤ 150 → n + (bsum (l.drop i) : Nat) ≤ n') ∧
      ∀ k r, towlinelaw05_short.l0 k n' acts' x8 x9 (wrap64 (x10 + 1)) = some r → ∃ k', towlinelaw05_short.l1 k' n acts l (i : Int) x8 x9 x10 = some r := by
  intro d
  induction d with
  | zero =>
    intro i n acts hi h1 h2 h3 h4
    refine ⟨n, acts, Int.le_refl _, h2, Int.le_refl _, h4, fun _ _ j hj hj2 => by omega, fun _ _ => by rw [List.drop_eq_nil_of_le (by omega)]; simp [bsum], fun k r h => ⟨k + 1, ?_⟩⟩
    simp only [towlinelaw05_short.l1]
    rw [if_neg (by omega)]
    exact h
  | succ d ih =>
    intro i n acts hi h1 h2 h3 h4
    by_cases ca : acts ≤ 150
    · by_cases cn : n ≤ 16384
      · obtain ⟨p1, p2, p3⟩ := mn_nn (rd_T35 l (i : Int)).f3.length
        obtain ⟨q1, q2, q3⟩ := mn_nn (rd_T35 l (i : Int)).f4.length
        have e1 : wrap64 (n + (mn ((rd_T35 l (i : Int)).f3.length : Int) 16385 + mn ((rd_T35 l (i : Int)).f4.length : Int) 16385)) = n + (mn ((rd_T35 l (i : Int)).f3.length : Int) 16385 + mn ((rd_T35 l (i : Int)).f4.length : Int) 16385) := by unfold wrap64; omega
        have e2 : wrap64 (acts + 1) = acts + 1 := by unfold wrap64; omega
        have e3 : wrap64 ((i : Int) + 1) = ((i + 1 : Nat) : Int) := by unfold wrap64; omega
        obtain ⟨n', acts', a1, a2, a3, a4, a5, a7, a6⟩ := ih (i + 1) (n + (mn ((rd_T35 l (i : Int)).f3.length : Int) 16385 + mn ((rd_T35 l (i : Int)).f4.length : Int) 16385)) (acts + 1) (by omega) (by omega) (by omega) (by omega) (by omega)
        refine ⟨n', acts', by omega, a2, by omega, a4, fun b1 b2 j hj hj2 => ?_, fun b1 b2 => ?_, fun k r h => ?_⟩
        · by_cases e : j = i
          · subst e; exact ⟨p3 (by omega), q3 (by omega)⟩
          · exact a5 b1 b2 j (by omega) hj2
        · have hb := a7 b1 b2
          have hd := bsum_drop l (show i < l.length by omega)
          have hm : mn ((rd_T35 l (i : Int)).f3.length : Int) 16385 = ((rd_T35 l (i : Int)).f3.length : Int) := by
            have := p3 (by omega)
            unfold mn; rw [if_neg (by omega)]
          rw [hd]
          omega
        · obtain ⟨k', hk⟩ := a6 k r h
          refine ⟨k' + 1, ?_⟩
          simp only [towlinelaw05_short.l1]
          rw [if_pos (by omega), if_pos ca, if_pos cn, if_pos (by omega), e1, e2, e3]
          exact hk
      · refine ⟨n, acts, Int.le_refl _, h2, Int.le_refl _, h4, fun b _ => absurd b cn, fun b _ => absurd b cn, fun k r h => ⟨k + 1, ?_⟩⟩
        simp only [towlinelaw05_short.l1]
        rw [if_pos (by omega), if_pos ca, if_neg cn]
        exact h
    · refine ⟨n, acts, Int.le_refl _, h2, Int.le_refl _, h4, fun _ b => absurd b ca, fun _ b => absurd b ca, fun k r h => ⟨k + 1, ?_⟩⟩
      simp only [towlinelaw05_short.l1]
      rw [if_pos (by omega), if_neg ca]
      exact h
end Go.Proofs.Ytehjbhnlbjbhfaa.Dk
-- DkU
namespace Go.Proofs.Ytehjbhnlbjbhfaa.Dk
open Go Go.RowKit Go.Proofs.YtehjbhnlbjbhfaaW.PrintWords Go.Proofs.YtehjbhnlbjbhfaaW.PrintLast Go.Proofs.YtehjbhnlbjbhfaaW.PrintMore
open Go.Proofs.Ytehjbhnlbjbhfaa.PDiskBegins
set_option linter.unusedVariables false
def wfI (n : Int) : Prop := (Lit.int .i64 n).wf = true
theorem wfI_range {n : Int} (h : wfI n) : -9223372036854775808 ≤ n ∧ n ≤ 9223372036854775807 := by
  unfold wfI Lit.wf at h
  simp at h
  exact h
end Go.Proofs.Ytehjbhnlbjbhfaa.Dk
-- DkV
namespace Go.Proofs.Ytehjbhnlbjbhfaa.Dk
open Go Go.RowKit Go.Proofs.YtehjbhnlbjbhfaaW.PrintWords Go.Proofs.YtehjbhnlbjbhfaaW.PrintLast Go.Proofs.YtehjbhnlbjbhfaaW.PrintMore
open Go.Proofs.Ytehjbhnlbjbhfaa.PDiskBegins
set_option linter.unusedVariables false
theorem fl_fall {s : DS} (h : s.fs.length = 8) (keep : List Int) {j : Nat} (hj : j < 8) : fl (fallP s keep) j = afterP (fl s j) (kv keep j) := by
  have h1 : fallP s keep = { fallP s keep with fs := midFs s keep 8 } := by rw [midFs_8 s keep h]; rfl
  have h2 := midFs_get s keep 8 j hj
  rw [if_pos hj] at h2
  rw [h1]; exact h2
theorem able_on {s : DS} {j : Nat} (hj : j < 8) (hr : s.room ≠ 0) (ho : s.off = false) : ableP s (j : Int) = 0 := by
  unfold ableP
  rw [if_neg hr, ho, if_neg (by decide), if_neg (show ¬ ((j : Int) < 0 ∨ 8 ≤ (j : Int)) by omega)]
theorem start_eq {s : DS} (hr : s.room ≠ 0) : (startP s).1 = { s with off := false } := by unfold startP; rw [if_neg hr]
theorem act_room (s : DS) (n : Nat) (done : DS → Nat → DS) (h : ∀ s n, (done s n).room = s.room) : (actP s n done).1.room = s.room := by
  unfold actP
  split
  · show (done (burnS s n) (burnN s n)).room = _
    rw [h, (burn_fs s n).2.2.1]
  · rw [h, (burn_fs s n).2.2.1]
theorem doneC_room (i : Nat) (s : DS) (n : Nat) : (doneC i s n).room = s.room := by unfold doneC; split <;> rfl
theorem doneY_room (i : Nat) (s : DS) (n : Nat) : (doneY i s n).room = s.room := by unfold doneY; split <;> rfl
theorem doneA_room (i : Nat) (b : List Int) (s : DS) (n : Nat) : (doneA i b s n).room = s.room := rfl
theorem append_room (s : DS) (i : Int) (b : List Int) : (appendP s i b).1.room = s.room := by
  unfold appendP
  split
  · rfl
  · split
    · rfl
    · exact act_room _ _ _ (doneA_room _ _)
end Go.Proofs.Ytehjbhnlbjbhfaa.Dk
-- TpB
namespace Go.Proofs.Ytehjbhnlbjbhfaa.Tp
open Go Go.RowKit Go.Proofs.YtehjbhnlbjbhfaaW.PrintWords Go.Proofs.YtehjbhnlbjbhfaaW.PrintLast Go.Proofs.YtehjbhnlbjbhfaaW.PrintMore Go.Proofs.Ytehjbhnlbjbhfaa.Wire Go.Proofs.Ytehjbhnlbjbhfaa.Wk Go.Proofs.Ytehjbhnlbjbhfaa.Dk
open Go.Proofs.Ytehjbhnlbjbhfaa.PTapePlays
set_option linter.unusedVariables false
theorem psum_l1 (s : List Int) (x8 x9 : Int) : ∀ (n j k : Nat) (c : Nat), c < 4294967296 → j + n = 8 → n < k → wire_Sum.l1 k (c : Int) s x8 x9 (j : Int) = wire_Sum.l0 (k - n - 1) ((bitsS n c : Nat) : Int) s x8 (wrap64 (x9 + 1)) := by
  intro n
  induction n with
  | zero =>
    intro j k c hc hj hk
    obtain ⟨k, rfl⟩ : ∃ k', k = k' + 1 := ⟨k - 1, by omega⟩
    simp only [wire_Sum.l1]
    rw [if_neg (by omega)]
    rfl
  | succ n ih =>
    intro j k c hc hj hk
    obtain ⟨k, rfl⟩ : ∃ k', k = k' + 1 := ⟨k - 1, by omega⟩
    simp only [wire_Sum.l1]
    rw [if_pos (by omega), bit_w c hc, show wrap64 ((j : Int) + 1) = ((j + 1 : Nat) : Int) by unfold wrap64; omega, ih (j + 1) k (bitS c) (bitS_lt hc) (by omega) (by omega), show k + 1 - (n + 1) - 1 = k - n - 1 by omega]
    rfl
theorem psum_l0 (s : List Int) (hs : Bs s) (hlen : s.length < 140737488355328) : ∀ (r : List Int) (i k c : Nat), s.drop i = r → c < 4294967296 → i ≤ s.length → 10 * r.length < k → wire_Sum.l0 k (c : Int) s (s.length : Int) (i : Int) = some ((4294967295 ^^^ crc r c : Nat) : Int) := by
  intro r
  induction r with
  | nil =>
    intro i k c hd hc hi hk
    obtain ⟨k, rfl⟩ : ∃ k', k = k' + 1 := ⟨k - 1, by omega⟩
    have h0 := List.drop_eq_nil_iff.1 hd
    simp only [wire_Sum.l0]
    rw [if_neg (by omega), show (4294967295 : Int) = ((4294967295 : Nat) : Int) from rfl, u32_xor_nat _ _ (by decide) hc]
    rfl
  | cons x r ih =>
    intro i k c hd hc hi hk
    obtain ⟨hx, hlt, hmem, hd2⟩ := rd_drop hd
    obtain ⟨hx0, hx1⟩ := hs x hmem
    obtain ⟨b, rfl⟩ := Int.eq_ofNat_of_zero_le hx0
    rw [List.length_cons] at hk
    obtain ⟨k, rfl⟩ : ∃ k', k = k' + 1 := ⟨k - 1, by omega⟩
    simp only [wire_Sum.l0]
    rw [if_pos (by omega), if_pos (by omega), if_pos (by omega), hx, show (b : Int) % 4294967296 = (b : Int) by omega, u32_xor_nat _ _ hc (by omega)]
    have h1 := psum_l1 s (s.length : Int) (i : Int) 8 0 k (c ^^^ b) (xor_lt hc (by omega)) rfl (by omega)
    refine h1.trans ?_
    clear h1
    rw [show wrap64 ((i : Int) + 1) = ((i + 1 : Nat) : Int) by unfold wrap64; omega]
    exact ih (i + 1) _ _ hd2 (bitsS_lt 8 _ (xor_lt hc (by omega))) (by omega) (by omega)
theorem psum (s : List Int) (hs : Bs s) (hlen : s.length < 140737488355328) (k : Nat) (hk : 10 * s.length < k) : wire_Sum.f k s = some (sumP s) := psum_l0 s hs hlen s 0 k 4294967295 rfl (by decide) (Nat.zero_le _) hk
theorem pput (l ns : List Int) (h0 : ns ≠ []) (h1 : ∀ x ∈ ns, 0 ≤ x ∧ x < 18446744073709551616) (h2 : l.length + 10 * ns.length < 140737488355328) : wire_Put.f l ns = some (l ++ Wire.encs ns) := by
  unfold wire_Put.f; rw [if_pos ⟨h0, u64s_iff.2 h1, h2⟩]
theorem pputb (l b : List Int) (h : l.length + b.length + 20 < 140737488355328) : wire_PutBytes.f l b = some (l ++ recP b) := by
  have hw : IntKind.u64.wrap (b.length : Int) = (b.length : Int) := by rw [u64w]; omega
  have hes : Wire.encs [(b.length : Int)] = enc 9 b.length := by simp [Wire.encs]
  have hen := enc_len 9 b.length
  unfold wire_PutBytes.f
  rw [hw, pput l _ (by simp) (by simp; omega) (by simp only [List.length_singleton]; omega), Option.bind_some, hes, if_pos (by rw [List.length_append]; omega)]
  unfold recP
  rw [List.append_assoc]
theorem pseal (l : List Int) (hb : Bs l) (k : Nat) (hk : 90000 < k) : wire_Seal.f k l = some (sealE l) := by
  unfold sealE
  by_cases h : 8192 < l.length
  · unfold wire_Seal.f; rw [if_pos (by omega), if_pos h]
  · rw [if_neg h]
    have hr := rec_len l (by omega)
    unfold wire_Seal.f wire_four.f
    rw [if_neg (by omega), pputb [] l (by simp only [List.length_nil]; omega), List.nil_append, Option.bind_some, psum _ (rec_bs hb (by omega)) (by omega) _ (by omega), Option.bind_some, Option.bind_some, if_pos (by simp only [List.length_cons, List.length_nil]; omega)]
    rfl
theorem encs_bs {l : List Int} (h : ∀ x ∈ l, 0 ≤ x ∧ x < 18446744073709551616) : Bs (Wire.encs l) := by
  intro x hx
  obtain ⟨n, hn, hx⟩ := List.mem_flatMap.1 hx
  exact enc64_bs (by have := h n hn; omega) x hx
theorem phead (gen many : Int) (b : List Int) (hb : Bs b) (hg : 0 ≤ gen ∧ gen < 9223372036854775808) (hm : 0 ≤ many ∧ many < 9223372036854775808) (hl : b.length < 70368744177664) (k : Nat) (hk : 90000 < k) : tape_head.f k gen many b = some (headE gen many b) := by
  have e1 : IntKind.u64.wrap gen = gen := by rw [u64w]; omega
  have e2 : IntKind.u64.wrap many = many := by rw [u64w]; omega
  have hn : ∀ x ∈ [gen, many], (0 : Int) ≤ x ∧ x < 18446744073709551616 := by
    intro x hx
    rcases List.mem_cons.1 hx with rfl | hx
    · omega
    · rcases List.mem_cons.1 hx with rfl | hx
      · omega
      · cases hx
  have hen := encs_len [gen, many]
  simp only [List.length_cons, List.length_nil] at hen
  unfold tape_head.f headE
  rw [e1, e2, pput [] _ (by simp) hn (by simp only [List.length_cons, List.length_nil]; omega), Option.bind_some, List.nil_append, pputb _ _ (by omega), Option.bind_some, pseal _ ((encs_bs hn).app (rec_bs hb (by omega))) k hk, Option.bind_some]
theorem Seal_calls (A0 : Option Addr) (c0 : Nat) (l0 : List Int) (w : World) (hr0 : Kd.C (Kd.int .u8) w A0 l0.length l0) (hc0 : l0.length ≤ c0) (hb : Bs l0) :
    Calls Try.prog 61 #[.slice A0 l0.length c0] w fun e w' => ∃ v, e = .returned (.tuple #[v, .int .i64 (sealE l0).2]) ∧ Kd.R (Kd.int .u8) 5 w' w.heap.size (fun _ => True) v (sealE l0).1 ∧ Below w.heap.size w w' :=
  wire_Seal.calls 90001 A0 c0 l0 (sealE l0).1 (sealE l0).2 w hr0 hc0 (pseal l0 hb 90001 (by decide))
theorem head_calls (gen many : Int) (A0 : Option Addr) (c0 : Nat) (l0 : List Int) (w : World) (hr0 : Kd.C (Kd.int .u8) w A0 l0.length l0) (hc0 : l0.length ≤ c0) (hb : Bs l0) (hg : 0 ≤ gen ∧ gen < 9223372036854775808) (hm : 0 ≤ many ∧ many < 9223372036854775808) (hl : l0.length < 70368744177664) :
    Calls Try.prog 62 #[.int .i64 gen, .int .i64 many, .slice A0 l0.length c0] w fun e w' => ∃ v, e = .returned (.tuple #[v, .int .i64 (headE gen many l0).2]) ∧ Kd.R (Kd.int .u8) 5 w' w.heap.size (fun _ => True) v (headE gen many l0).1 ∧ Below w.heap.size w w' :=
  tape_head.calls 90001 gen many A0 c0 l0 (headE gen many l0).1 (headE gen many l0).2 w hr0 hc0 (phead gen many l0 hb hg hm hl 90001 (by decide))
end Go.Proofs.Ytehjbhnlbjbhfaa.Tp
-- TpC
namespace Go.Proofs.Ytehjbhnlbjbhfaa.Tp
open Go Go.RowKit Go.Proofs.YtehjbhnlbjbhfaaW.PrintWords Go.Proofs.YtehjbhnlbjbhfaaW.PrintLast Go.Proofs.YtehjbhnlbjbhfaaW.PrintMore Go.Proofs.Ytehjbhnlbjbhfaa.Wire Go.Proofs.Ytehjbhnlbjbhfaa.Wk Go.Proofs.Ytehjbhnlbjbhfaa.Dk
open Go.Proofs.Ytehjbhnlbjbhfaa.PTapePlays
set_option linter.unusedVariables false
def Rs (G : Nat → Prop) (W : World) (v : Value) (ls : List (List Int)) : Prop := Kd.V KdB 0 W 0 (fun b => ¬ G b) v ls
abbrev tapeCells (x : TS) (bV lV : Value) (g : Nat) : Array Value := #[.int .i64 x.r.gen, bV, lV, .pointer (some ⟨g, 0, none⟩), .int .i64 (x.file : Int), .int .i64 (x.kept : Int)]
structure IsT (G : Nat → Prop) (W : World) (t g : Nat) (x : TS) : Prop where
  gt : G t
  ex : ∃ bV lV, W.heap[t]? = some (.cells (tapeCells x bV lV g) 50 (0, 0)) ∧ Rw G .u8 W bV x.r.base ∧ Rs G W lV x.r.l
structure Ws (P : Nat → Prop) (w w' : World) : Prop where
  os : w'.os = w.os
  tape : w'.tape = w.tape
  output : w'.output = w.output
  size : w.heap.size ≤ w'.heap.size
  block : ∀ i, i < w.heap.size → ¬ P i → w'.heap[i]? = w.heap[i]?
theorem Ws.trans {P : Nat → Prop} {w w1 w2 : World} (h : Ws P w w1) (k : Ws P w1 w2) : Ws P w w2 :=
  ⟨k.os.trans h.os, k.tape.trans h.tape, k.output.trans h.output, Nat.le_trans h.size k.size, fun i hi hne => (k.block i (Nat.lt_of_lt_of_le hi h.size) hne).trans (h.block i hi hne)⟩
theorem Ws.mono {P P' : Nat → Prop} {w w1 : World} (h : Ws P w w1) (hp : ∀ b, b < w.heap.size → P b → P' b) : Ws P' w w1 := ⟨h.os, h.tape, h.output, h.size, fun i hi hn => h.block i hi (fun hP => hn (hp i hi hP))⟩
theorem Ws.of_below {P : Nat → Prop} {w w1 : World} (h : Below w.heap.size w w1) : Ws P w w1 := ⟨h.os, h.tape, h.output, h.size, fun i hi _ => h.block i hi⟩
theorem Ws.of_wr {P : Nat → Prop} {g : Nat} {w w1 : World} (h : Wr g w w1) (hg : P g) : Ws P w w1 := ⟨h.os, h.tape, h.output, h.size, fun i hi hn => h.block i hi (fun e => hn (e ▸ hg))⟩
theorem Ws.of_set {P : Nat → Prop} (w : World) {t : Nat} (hP : P t) (j : Nat) (u : Value) : Ws P w (w.setCell ⟨t, j, none⟩ u) := Ws.of_wr ((Wr.refl t w).set j u) hP
theorem Ws.below {P : Nat → Prop} {w0 w w1 : World} (h : Ws P w w1) (hb : Below w0.heap.size w0 w) (hP : ∀ b, P b → w0.heap.size ≤ b) : Below w0.heap.size w0 w1 :=
  ⟨h.os.trans hb.os, h.tape.trans hb.tape, h.output.trans hb.output, Nat.le_trans hb.size h.size, fun i hi => (h.block i (Nat.lt_of_lt_of_le hi hb.size) (fun hp => by have := hP i hp; omega)).trans (hb.block i hi)⟩
theorem Rw.ws {G P : Nat → Prop} {k : IntKind} {W W' : World} {v : Value} {xs : List Int} (h : Rw G k W v xs) (hw : Ws P W W') (hg : ∀ b, P b → G b) : Rw G k W' v xs := h.step (fun b hb hlt => hw.block b hlt (fun e => hb (hg b e)))
theorem Rs.nil (G : Nat → Prop) (W : World) : Rs G W (.slice none 0 0) [] := Kd.V_nil _ _ _ _ _
theorem Rs.ws {G P : Nat → Prop} {W W' : World} {v : Value} {xs : List (List Int)} (h : Rs G W v xs) (hw : Ws P W W') (hg : ∀ b, P b → G b) : Rs G W' v xs := Kd.V_step h (fun b hb hlt => hw.block b hlt (fun e => hb (hg b e)))
theorem Rs.below {G : Nat → Prop} {W W' : World} {v : Value} {xs : List (List Int)} (h : Rs G W v xs) (hw : Below W.heap.size W W') : Rs G W' v xs := Kd.V_below h hw
theorem Rs.grow {G G' : Nat → Prop} {W : World} {v : Value} {xs : List (List Int)} (h : Rs G W v xs) (hg : ∀ b, b < W.heap.size → G' b → G b) : Rs G' W v xs := Kd.V_mono (Kd.V_bound h) (fun b hb hG => hb.1 (hg b hb.2 hG))
theorem Rs.slice {G : Nat → Prop} {W : World} {v : Value} {xs : List (List Int)} (h : Rs G W v xs) : ∃ A c, v = .slice A xs.length c ∧ xs.length ≤ c ∧ Kd.C KdB W A xs.length xs := by
  obtain ⟨A, c, rfl⟩ := Kd.V_slice h
  exact ⟨A, c, rfl, (Kd.V_reads' h).2.1, (Kd.V_reads' h).2.2⟩
theorem Rs.of_R {G : Nat → Prop} {e : Nat} {W W0 : World} {v : Value} {xs : List (List Int)} (h : Kd.R KdB e W W0.heap.size (fun _ => True) v xs) (hG : ∀ b, G b → b < W0.heap.size) : Rs G W v xs :=
  show Kd.V KdB e W 0 (fun b => ¬ G b) v xs from Kd.R_V (Kd.R_mono (Kd.R_bound h) (fun b hb hg => by have := hb.2.1; have := hG b hg; omega))
theorem IsD.ws {G P : Nat → Prop} {g : Nat} {W W' : World} {s : DS} (h : IsD G W g s) (hw : Ws P W W') (hg : ∀ b, P b → G b) (hne : ¬ P g) : IsD G W' g s := by
  obtain ⟨h1, h2, d, hA, hR⟩ := h
  exact ⟨fun b hb => Nat.lt_of_lt_of_le (h1 b hb) hw.size, h2, d, hA.same (hw.block g (h1 g h2) hne), hR.1, hR.2.1, Rw.ws hR.2.2.1 hw hg, hR.2.2.2.1, hR.2.2.2.2.1, hR.2.2.2.2.2.1, fun i hi => ⟨Rw.ws (hR.2.2.2.2.2.2 i hi).1 hw hg, Rw.ws (hR.2.2.2.2.2.2 i hi).2.1 hw hg, (hR.2.2.2.2.2.2 i hi).2.2⟩⟩
theorem IsT.lt {G : Nat → Prop} {W : World} {t g : Nat} {x : TS} (h : IsT G W t g x) : t < W.heap.size := by
  obtain ⟨_, bV, lV, hb, _⟩ := h
  exact blk_lt hb
theorem IsT.ws {G P : Nat → Prop} {W W' : World} {t g : Nat} {x : TS} (h : IsT G W t g x) (hw : Ws P W W') (hg : ∀ b, P b → G b) (hne : ¬ P t) : IsT G W' t g x := by
  have hlt := h.lt
  obtain ⟨h1, bV, lV, hb, hB, hL⟩ := h
  exact ⟨h1, bV, lV, (hw.block t hlt hne).trans hb, Rw.ws hB hw hg, hL.ws hw hg⟩
theorem IsT.below {G : Nat → Prop} {W W' : World} {t g : Nat} {x : TS} (h : IsT G W t g x) (hw : Below W.heap.size W W') : IsT G W' t g x := h.ws (P := fun _ => False) (Ws.of_below hw) (fun _ h => h.elim) (fun h => h)
theorem IsT.wr {G : Nat → Prop} {W W' : World} {t g d : Nat} {x : TS} (h : IsT G W t d x) (hw : Wr g W W') (hg : G g) (hne : g ≠ t) : IsT G W' t d x := h.ws (P := fun b => b = g) (Ws.of_wr hw rfl) (fun b e => e ▸ hg) (fun e => hne e.symm)
theorem IsT.grow {G G' : Nat → Prop} {W : World} {t g : Nat} {x : TS} (h : IsT G W t g x) (hg : G' t) (hs : ∀ k, k < W.heap.size → G' k → G k) : IsT G' W t g x := by
  obtain ⟨h1, bV, lV, hb, hB, hL⟩ := h
  exact ⟨hg, bV, lV, hb, hB.grow hs, hL.grow hs⟩
theorem IsT.dr {G : Nat → Prop} {W : World} {t g : Nat} {x : TS} (h : IsT G W t g x) : IsT G W.drew t g x := h.below (below_drew1 (Below.refl _ _))
theorem IsT.drN {G : Nat → Prop} {W : World} {t g : Nat} {x : TS} (h : IsT G W t g x) (n : Nat) : IsT G (W.drewN n) t g x := h.below (pw_below_drewN (Below.refl _ _) n)
theorem IsT.al {G : Nat → Prop} {W : World} {t g : Nat} {x : TS} (h : IsT G W t g x) (o : Obj) : IsT G (W.alloc o) t g x := h.below (below_alloc (Below.refl _ _) o)
theorem dead_calls (G : Nat → Prop) (t g : Nat) (x : TS) (w : World) (h : IsT G w t g x) : Calls Try.prog 60 #[.pointer (some ⟨t, 0, none⟩)] w fun e w' => e = .returned (.bool false) ∧ Drawn0 w w' := by
  obtain ⟨_, bV, lV, hb, _⟩ := h
  have hc_3 : w.cell? ⟨t, 3, none⟩ = some (.pointer (some ⟨g, 0, none⟩)) := (blk_cell hb 3).trans rfl
  clear hb
  go_enter Try.func60, Try.ntmps60
  go_wp2
  go_ret
  exact ⟨rfl, 0, rfl⟩
theorem Len_calls (G : Nat → Prop) (t g : Nat) (x : TS) (w : World) (h : IsT G w t g x) : Calls Try.prog 27 #[.pointer (some ⟨t, 0, none⟩)] w fun e w' => e = .returned (.int .i64 (x.r.l.length : Int)) ∧ Drawn0 w w' := by
  have HD := Aside0.mk (dead_calls G t g x w h)
  obtain ⟨_, bV, lV, hb, hB, hL⟩ := h
  obtain ⟨A, c, rfl, _⟩ := hL.slice
  have hc_2 : w.cell? ⟨t, 2, none⟩ = some (.slice A x.r.l.length c) := (blk_cell hb 2).trans rfl
  clear hb hB hL
  go_enter Try.func27, Try.ntmps27
  go_wp2_with (fail)
  refine HD.out.mono ?_
  rintro e w1 ⟨rfl, ⟨n0, rfl⟩⟩
  go_wp2
  go_ret
  exact ⟨rfl, n0, rfl⟩
theorem Kept_calls (G : Nat → Prop) (t g : Nat) (x : TS) (w : World) (h : IsT G w t g x) : Calls Try.prog 28 #[.pointer (some ⟨t, 0, none⟩)] w fun e w' => e = .returned (.int .i64 (x.kept : Int)) ∧ Drawn0 w w' := by
  have HD := Aside0.mk (dead_calls G t g x w h)
  obtain ⟨_, bV, lV, hb, hB, hL⟩ := h
  have hc_5 : w.cell? ⟨t, 5, none⟩ = some (.int .i64 (x.kept : Int)) := (blk_cell hb 5).trans rfl
  clear hb hB hL
  go_enter Try.func28, Try.ntmps28
  go_wp2_with (fail)
  refine HD.out.mono ?_
  rintro e w1 ⟨rfl, ⟨n0, rfl⟩⟩
  go_wp2
  go_ret
  exact ⟨rfl, n0, rfl⟩
theorem Base_calls (G : Nat → Prop) (t g : Nat) (x : TS) (w : World) (h : IsT G w t g x) (hl : x.r.base.length < 1000000000) : Calls Try.prog 29 #[.pointer (some ⟨t, 0, none⟩)] w fun e w' => ∃ v, e = .returned v ∧ Kd.R (Kd.int .u8) 5 w' w.heap.size (fun _ => True) v x.r.base ∧ Below w.heap.size w w' := by
  have HD := Aside0.mk (dead_calls G t g x w h)
  have HL := Aside0.mk hl
  obtain ⟨_, bV, lV, hb, hB, hL⟩ := h
  obtain ⟨A, c, rfl, hcc, hC⟩ := hB.slice
  have hc_1 : w.cell? ⟨t, 1, none⟩ = some (.slice A x.r.base.length c) := (blk_cell hb 1).trans rfl
  have HC := Aside0.mk (And.intro hcc hC)
  clear hb hB hL hcc hC hl
  go_enter Try.func29, Try.ntmps29
  go_wp2_with (fail)
  refine HD.out.mono ?_
  rintro e w1 ⟨rfl, ⟨n0, rfl⟩⟩
  go_wp2_with (fail)
  refine (Clone_b A c _ _ (Kd.C_drewN HC.out.2 n0) HC.out.1 (by have := HL.out; omega)).mono ?_
  rintro e w2 ⟨v, rfl, hR2, hB2⟩
  have HR2 := Aside0.mk hR2
  have HB2 := Aside0.mk hB2
  clear hR2 hB2
  go_wp2
  go_ret
  exact ⟨_, rfl, Kd.R_lower HR2.out (Nat.le_refl _), below_step (pw_below_drewN (Below.refl _ _) n0) HB2.out⟩
set_option maxRecDepth 100000 in
theorem At_calls (G : Nat → Prop) (t g : Nat) (x : TS) (i : Nat) (w : World) (h : IsT G w t g x) (hi : i < x.r.l.length) (hn : x.r.l.length < 1000000000) (hl : (x.r.l.getD i []).length < 1000000000) : Calls Try.prog 23 #[.pointer (some ⟨t, 0, none⟩), .int .i64 (i : Int)] w fun e w' => ∃ v, e = .returned (.tuple #[v, .bool true]) ∧ Kd.R (Kd.int .u8) 5 w' w.heap.size (fun _ => True) v (x.r.l.getD i []) ∧ Below w.heap.size w w' := by
  have HD := Aside0.mk (dead_calls G t g x w h)
  have HL := Aside0.mk hl
  have HN := Aside0.mk hn
  obtain ⟨_, bV, lV, hb, hB, hL⟩ := h
  obtain ⟨A, c, rfl, hcc, hC⟩ := hL.slice
  have hc_2 : w.cell? ⟨t, 2, none⟩ = some (.slice A x.r.l.length c) := (blk_cell hb 2).trans rfl
  obtain ⟨ad, A1, c1, rfl, hcc1, hC1, hel⟩ := bb_get hC i hi
  generalize x.r.l.getD i [] = D at *
  have HC := Aside0.mk (And.intro hcc1 hC1)
  have h0 : (0 : Int) ≤ (i : Int) := by omega
  have h1 : (i : Int) < (x.r.l.length : Int) := by omega
  have d0 : decide ((i : Int) < 0) = false := decide_eq_false (by omega)
  have d1 : decide ((i : Int) ≥ (x.r.l.length : Int)) = false := decide_eq_false (by omega)
  have hel2 : w.cell? (ad.add ((i : Int).toNat * 1)) = some (.slice A1 D.length c1) := by rw [Int.toNat_natCast, Nat.mul_one]; exact hel
  clear hb hB hL hcc hC hl hn hcc1 hC1
  go_enter Try.func23, Try.ntmps23
  go_wp2_with (fail)
  refine HD.out.mono ?_
  rintro e w1 ⟨rfl, ⟨n0, rfl⟩⟩
  go_wp2_with (fail)
  refine (Clone_b A1 c1 _ _ (Kd.C_drewN HC.out.2 n0) HC.out.1 (by have := HL.out; omega)).mono ?_
  rintro e w2 ⟨v, rfl, hR2, hB2⟩
  have HR2 := Aside0.mk hR2
  have HB2 := Aside0.mk hB2
  clear hR2 hB2
  go_wp2
  go_ret2
  exact ⟨_, rfl, Kd.R_lower HR2.out (Nat.le_refl _), below_step (pw_below_drewN (Below.refl _ _) n0) HB2.out⟩
end Go.Proofs.Ytehjbhnlbjbhfaa.Tp
-- TpD
namespace Go.Proofs.Ytehjbhnlbjbhfaa.Tp
open Go Go.RowKit Go.Proofs.YtehjbhnlbjbhfaaW.PrintWords Go.Proofs.YtehjbhnlbjbhfaaW.PrintLast Go.Proofs.YtehjbhnlbjbhfaaW.PrintMore Go.Proofs.Ytehjbhnlbjbhfaa.Wire Go.Proofs.Ytehjbhnlbjbhfaa.Wk Go.Proofs.Ytehjbhnlbjbhfaa.Dk
set_option linter.unusedVariables false
theorem flat1 : ∀ (rows : List (List Value)), (∀ c ∈ rows, c.length = 1) → rows.flatten.length = rows.length ∧ (∀ (j : Nat) (c : List Value), rows[j]? = some c → (rows.flatten.drop j).take 1 = c) ∧ ∀ (j : Nat) (u : Value), rows.flatten[j]? = some u → rows[j]? = some [u] := by
  intro rows
  induction rows with
  | nil => intro _; exact ⟨rfl, fun j c h => by simp at h, fun j u h => by simp at h⟩
  | cons r rs ih =>
    intro h
    obtain ⟨h1, h2, h3⟩ := ih (fun c hc => h c (List.mem_cons_of_mem _ hc))
    obtain ⟨x, rfl⟩ : ∃ x, r = [x] := by
      have := h r (List.mem_cons_self ..)
      match r, this with
      | [x], _ => exact ⟨x, rfl⟩
    refine ⟨by simp [h1], ?_, ?_⟩
    · rintro (_ | j) c hj
      · simp at hj; subst hj; simp
      · simp at hj; simpa using h2 j c hj
    · rintro (_ | j) u hj
      · simp at hj; subst hj; simp
      · simp at hj; simpa using h3 j u hj
section
variable {ops : Array Oper} {o : Oper} {a : Act} {Q : Exit → Act → World → Prop} {K : Act → World → Prop}
theorem V_append_step {G : Nat → Prop} {W : World} (hw : Region.wanted o (yielded ops a.tmps) = true) (s x : Operand)
    (ho : o.op = .call { callee := .builtin .append, args := #[s, x], argTypes := #[46, 46] }) (A : Option Addr) (c : Nat) (ls : List (List Int)) (dv : Value) (d : List Int)
    (hs : a.eval s = .slice A ls.length ls.length) (hx : a.eval x = .slice (some ⟨W.heap.size, 0, none⟩) 1 1)
    (HL : Rs G W (.slice A ls.length c) ls) (HD : Rw G .u8 W dv d) (hG : ∀ b, G b → b < W.heap.size) (hl : ls.length < 1000000000)
    (h : ∀ v1 w1, Rs G w1 v1 (ls ++ [d]) → Below W.heap.size W w1 → K (a.put o.dst v1) w1) :
    if Region.wanted o (yielded ops a.tmps) = true then Oper.wp Try.prog o a (W.alloc (.cells #[dv] 32)) K Q else K (a.put o.dst undef) (W.alloc (.cells #[dv] 32)) := by
  obtain ⟨i0, hi, hz0, hz1, hz2⟩ := info_parts Wk.info32
  rw [if_pos hw]
  have hsz : (W.alloc (.cells #[dv] 32)).heap.size = W.heap.size + 1 := by simp
  obtain ⟨rows, hrl, hrr, hrf⟩ := Kd.reads_raw (Kd.F_rows (Kd.V_F HL)) (fun y c hk => ⟨KdB.K_len (Kd.FK_now hk), KdB.K_one (Kd.FK_now hk)⟩)
  obtain ⟨Ad, cd, rfl, hcd, _⟩ := Rw.slice HD
  have hFD : Kd.FK KdB W (fun b => ¬ G b) d [.slice Ad d.length cd] := Kd.FK_slice_mk hcd (Kd.V_F HD)
  have hlen1 : ∀ c ∈ rows, c.length = 1 := by
    intro c hc
    obtain ⟨j, hj, e⟩ := List.getElem_of_mem hc
    have := hrf j _ c (List.getElem?_eq_getElem (by omega)) (by rw [List.getElem?_eq_getElem hj, e])
    exact KdB.K_len (Kd.FK_now this)
  obtain ⟨f1, f2, f3⟩ := flat1 rows hlen1
  have hold : ∀ b, A = some b → ∀ j u, rows.flatten[j]? = some u → (W.alloc (.cells #[.slice Ad d.length cd] 32)).cell? (b.add j) = some u := by
    intro b e j u hj
    subst e
    have hjl : j < ls.length := by have := (List.getElem?_eq_some_iff.1 hj).1; omega
    obtain ⟨ad', c', e', hcl, hK, hcc, _⟩ := Kd.F_get (Kd.V_F HL) [] (j : Int) (by omega) (by omega)
    cases e'
    rw [Int.toNat_natCast, show j * KdB.sz = j from Nat.mul_one j] at hcc
    have h1 := hrr.2.2 (by omega)
    obtain ⟨ad2, e2, h1⟩ := h1
    cases e2
    obtain ⟨c2, hc2l, hc2, hc2c⟩ := h1 j [u] (f3 j u hj)
    have h3 := hc2c 0 u (by rw [hc2.1]; rfl)
    rw [show j * KdB.sz + 0 = j by show j * 1 + 0 = j; omega] at h3
    exact (World.cell?_alloc_lt _ _ _ (World.block_lt_of_cell? W _ h3)).trans h3
  have hnew : ∀ j u, [Value.slice Ad d.length cd][j]? = some u → (W.alloc (.cells #[.slice Ad d.length cd] 32)).cell? ((⟨W.heap.size, 0, none⟩ : Addr).add j) = some u := by
    intro j u hj
    have : j = 0 := by have := (List.getElem?_eq_some_iff.1 hj).1; simp at this; omega
    subst this
    simp at hj
    subst hj
    rw [add_plain]
    simp
  have fin : ∀ v1 w1, w1.ownsRow (W.alloc (.cells #[.slice Ad d.length cd] 32)).heap.size 32 1 v1 (ls.length + 1) (rows.flatten ++ [Value.slice Ad d.length cd]) → (W.alloc (.cells #[.slice Ad d.length cd] 32)).grownBy w1 none → K (a.put o.dst v1) w1 := by
    intro v1 w1 hown hg
    have hgW : W.grownBy w1 none := World.grownBy.trans (World.grownBy_alloc W _ _) hg
    have hB : Below W.heap.size W w1 := ((Below.refl W.heap.size W).alloc (Nat.le_refl _) _).grown hg (by omega) (fun k hk => by cases hk)
    refine h v1 w1 ?_ hB
    have hbase : ∀ k, v1.ownBlock = some k → W.heap.size + 1 ≤ k := fun k hk => by have := own_base hown k hk; omega
    have hN : Kd.N KdB 32 w1 (W.heap.size + 1) (fun b => ¬ G b) v1 (ls ++ [d]) := by
      refine ⟨fun k hk hGk => by have := hbase k hk; have := hG k hGk; omega, rows ++ [[.slice Ad d.length cd]], by simp [hrl], ?_, ?_⟩
      · refine ⟨fun k hk => hk.symm, rows.flatten ++ [.slice Ad d.length cd], by rw [List.length_append, hrl]; rw [hsz] at hown; exact hown, ?_⟩
        refine ⟨by show (rows.flatten ++ [Value.slice Ad d.length cd]).length = (rows ++ [[Value.slice Ad d.length cd]]).length * 1; simp [f1], fun j p hj => ?_⟩
        show ((rows.flatten ++ [Value.slice Ad d.length cd]).drop (j * 1)).take 1 = p ∧ (((rows.flatten ++ [Value.slice Ad d.length cd]).drop (j * 1)).take 1).length = 1 ∧ ∀ u ∈ ((rows.flatten ++ [Value.slice Ad d.length cd]).drop (j * 1)).take 1, u.oneCell' = true
        obtain ⟨g1, g2, g3⟩ := flat1 (rows ++ [[.slice Ad d.length cd]]) (by
          intro c hc
          rcases List.mem_append.1 hc with hc | hc
          · exact hlen1 c hc
          · simp at hc; subst hc; rfl)
        have e := g2 j p hj
        rw [List.flatten_append] at e
        have hp1 : p.length = 1 := by
          have hm := List.mem_of_getElem? hj
          rcases List.mem_append.1 hm with hc | hc
          · exact hlen1 p hc
          · simp at hc; subst hc; rfl
        have hp2 : ∀ u ∈ p, u.oneCell' = true := by
          rcases Nat.lt_or_ge j rows.length with hlt | hge
          · rw [List.getElem?_append_left hlt] at hj
            exact KdB.K_one (Kd.FK_now (hrf j _ p (List.getElem?_eq_getElem (by omega)) hj))
          · rw [List.getElem?_append_right hge] at hj
            have : j - rows.length = 0 := by have := (List.getElem?_eq_some_iff.1 hj).1; simp at this; omega
            rw [this] at hj
            simp at hj
            subst hj
            exact KdB.K_one (Kd.FK_now hFD)
        exact ⟨by rw [Nat.mul_one]; simpa using e, by rw [Nat.mul_one]; rw [show (rows.flatten ++ [Value.slice Ad d.length cd]) = (rows.flatten ++ [[Value.slice Ad d.length cd]].flatten) by simp, e]; exact hp1, by rw [Nat.mul_one, show (rows.flatten ++ [Value.slice Ad d.length cd]) = (rows.flatten ++ [[Value.slice Ad d.length cd]].flatten) by simp, e]; exact hp2⟩
      · intro j y cs hy hcs
        have step : ∀ {y : List Int} {cs : List Value}, Kd.FK KdB W (fun b => ¬ G b) y cs → Kd.FK KdB w1 (fun k => ¬ G k ∧ some k ≠ v1.ownBlock) y cs := by
          intro y cs hq
          exact Kd.FK_mono (Kd.FK_step (Kd.FK_bound hq) (fun k hk hlt => hgW.block k hlt (by simp))) (fun k hk => ⟨hk.1, fun he => by have := hbase k he.symm; have := hk.2; omega⟩)
        rcases Nat.lt_or_ge j ls.length with hlt | hge
        · rw [List.getElem?_append_left hlt] at hy
          rw [List.getElem?_append_left (by omega)] at hcs
          exact step (hrf j y cs hy hcs)
        · rw [List.getElem?_append_right hge] at hy
          rw [List.getElem?_append_right (by omega), hrl] at hcs
          have : j - ls.length = 0 := by have := (List.getElem?_eq_some_iff.1 hy).1; simp at this; omega
          rw [this] at hy hcs
          simp at hy hcs
          subst hy hcs
          exact step hFD
    show Kd.V KdB 32 w1 0 (fun b => ¬ G b) v1 (ls ++ [d])
    exact Kd.N_V hN
  have holdl : rows.flatten.length = ls.length * 1 := by omega
  cases A with
  | some b =>
    obtain ⟨v', w', hrun, r1, r2⟩ := run_append_arg_grows (P := Try.prog) (w := W.alloc (.cells #[.slice Ad d.length cd] 32)) 46 o.type 32 i0 (.slice none 0 0) 1 24 Try.underlying46 hi hz0 hz1 hz2 rfl (by decide) b ls.length ls.length rows.flatten holdl (hold b rfl) ⟨W.heap.size, 0, none⟩ 1 1 [.slice Ad d.length cd] rfl hnew (by omega) (by unfold maxLen; omega) (by omega)
    unfold Oper.wp execOp
    simp only [ho, resolve, invoke, builtin, Sem.run_bind, Sem.run_pure, Result.andThen_ok, List.map_toArray, List.map_cons, List.map_nil, hs, hx, hrun]
    exact fin _ _ r1 r2
  | none =>
    have hle : ls = [] := by
      cases ls with
      | nil => rfl
      | cons y ys => obtain ⟨ad', c', e', _⟩ := Kd.F_get (Kd.V_F HL) [] (0 : Int) (by omega) (by simp); cases e'
    subst hle
    have hr0 : rows = [] := List.eq_nil_of_length_eq_zero hrl
    subst hr0
    obtain ⟨v', w', hrun, r1, r2, _⟩ := run_append_own (P := Try.prog) (W.alloc (.cells #[.slice Ad d.length cd] 32)) (W.alloc (.cells #[.slice Ad d.length cd] 32)).heap.size 46 o.type 32 i0 (.slice none 0 0) 1 24 Try.underlying46 hi hz0 hz1 hz2 rfl (by decide) (.slice none 0 0) 0 [] (World.ownsRow_nil _ _ 32 1) ⟨W.heap.size, 0, none⟩ 1 1 [.slice Ad d.length cd] rfl hnew (by simp [Value.oneCell']) (by unfold maxLen; omega) (by omega) (Nat.le_refl _)
    unfold Oper.wp execOp
    simp only [ho, resolve, invoke, builtin, Sem.run_bind, Sem.run_pure, Result.andThen_ok, List.map_toArray, List.map_cons, List.map_nil, hs, hx]
    simp only [List.length_nil] at hrun ⊢
    rw [hrun]
    exact fin _ _ r1 r2
end
end Go.Proofs.Ytehjbhnlbjbhfaa.Tp
-- TpE
namespace Go.Proofs.Ytehjbhnlbjbhfaa.Tp
open Go Go.RowKit Go.Proofs.YtehjbhnlbjbhfaaW.PrintWords Go.Proofs.YtehjbhnlbjbhfaaW.PrintLast Go.Proofs.YtehjbhnlbjbhfaaW.PrintMore Go.Proofs.Ytehjbhnlbjbhfaa.Wire Go.Proofs.Ytehjbhnlbjbhfaa.Wk Go.Proofs.Ytehjbhnlbjbhfaa.Dk
set_option linter.unusedVariables false
set_option linter.unusedSimpArgs false
theorem IsT.ne {G : Nat → Prop} {W : World} {t g : Nat} {x : TS} {s : DS} (h : IsT G W t g x) (k : IsD G W g s) : t ≠ g := by
  intro e
  subst e
  obtain ⟨_, bV, lV, hb, _⟩ := h
  obtain ⟨_, _, d, hA, _⟩ := k
  have := hA.2
  rw [hb] at this
  injection this with this
  injection this with _ this _
  exact absurd this (by decide)
abbrev TG (t g : Nat) : Nat → Prop := fun b => b = t ∨ b = g
theorem TG.sub {G : Nat → Prop} {W : World} {t g : Nat} {x : TS} {s : DS} (h : IsT G W t g x) (k : IsD G W g s) : ∀ b, TG t g b → G b := fun b hb => hb.elim (fun e => e ▸ h.gt) (fun e => e ▸ k.gg)
theorem IsT.put {G : Nat → Prop} {W : World} {t g : Nat} {x y : TS} {bV lV bV' lV' : Value} (h : W.heap[t]? = some (.cells (tapeCells x bV lV g) 50 (0, 0))) (hG : G t) (i : Nat) (u : Value) (e : (tapeCells x bV lV g).setIfInBounds i u = tapeCells y bV' lV' g) (hB : Rw G .u8 W bV' y.r.base) (hL : Rs G W lV' y.r.l) : IsT G (W.setCell ⟨t, i, none⟩ u) t g y :=
  ⟨hG, bV', lV', blk_put h i u e, Rw.ws hB (Ws.of_set W (P := fun b => b = t) rfl i u) (fun b e => e ▸ hG), hL.ws (Ws.of_set W (P := fun b => b = t) rfl i u) (fun b e => e ▸ hG)⟩
set_option maxHeartbeats 8000000 in
set_option maxRecDepth 100000 in
theorem TSync_calls (G : Nat → Prop) (t g : Nat) (x : TS) (s : DS) (w : World) (hT : IsT G w t g x) (hD : IsD G w g s) (hok : Okk s) :
    Calls Try.prog 25 #[.pointer (some ⟨t, 0, none⟩)] w fun e w' => e = .returned (.int .i64 (syncT x s).2.2) ∧ IsT G w' t g (syncT x s).1 ∧ IsD G w' g (syncT x s).2.1 ∧ Ws (TG t g) w w' := by
  have HNE := Aside0.mk (hT.ne hD)
  have HDE := Aside0.mk (dead_calls G t g x w hT)
  have HOK := Aside0.mk hok
  have HT := Aside0.mk hT
  have HD := Aside0.mk hD
  obtain ⟨s2, e2, hsy⟩ : ∃ s2 e2, syncP s (x.file : Int) = (s2, e2) := ⟨_, _, rfl⟩
  have HSY := Aside0.mk hsy
  obtain ⟨r, hr⟩ : ∃ r, syncT x s = r := ⟨_, rfl⟩
  rw [hr]
  have HR := Aside0.mk hr
  clear hr hsy hT hD hok
  go_enter Try.func25, Try.ntmps25
  go_wp2_with (fail)
  refine HDE.out.mono ?_
  rintro e w1 ⟨rfl, ⟨n0, rfl⟩⟩
  go_wp2
  refine with_w (fun w' => IsT G w' t g x ∧ IsD G w' g s ∧ Below w.heap.size w w') ⟨HT.out.drN n0, HD.out.drN n0, pw_below_drewN (Below.refl _ _) n0⟩ ?_
  clear HT HD HDE
  rintro wr ⟨hT, hD, hB⟩
  have HT := Aside0.mk hT
  have HD3 := Aside0.mk hD
  have HB := Aside0.mk hB
  obtain ⟨hgt, bV, lV, hb, hBr, hLr⟩ := hT
  obtain ⟨A, c, rfl, hcl, _⟩ := hLr.slice
  have hq3 : wr.cell? ⟨t, 3, none⟩ = some (.pointer (some ⟨g, 0, none⟩)) := (blk_cell hb 3).trans rfl
  have hq4 : wr.cell? ⟨t, 4, none⟩ = some (.int .i64 (x.file : Int)) := (blk_cell hb 4).trans rfl
  have HBL := Aside0.mk hb
  have HRS := Aside0.mk (And.intro hBr hLr)
  clear hD hB hb hBr hLr hcl
  refine start_ (n := 10) (S := fun w' => w'.cell? ⟨t, 3, none⟩ = some (.pointer (some ⟨g, 0, none⟩)) ∧ w'.cell? ⟨t, 4, none⟩ = some (.int .i64 (x.file : Int))) (ds := []) #[false, false, false, false, false, false, false, false, false, false] (by kernel_rfl) rfl rfl ⟨hq3, hq4⟩ (fun hHeld => ?_)
  refine pure_ (i := 0) (N := some 6) (v := ?_) (a' := ?_) #[true, false, false, false, false, false, false, false, false, false] rfl rfl (by kernel_rfl) (fun _ _ _ h => h) (Or.inl ⟨by rfl, ?_⟩) ?_ ?_
  rotate_left
  · intro w'
    go_simp
    with_reducible rfl
  rotate_left
  · simp only [Act.put, List.setIfInBounds_toArray, List.set_cons_zero, List.set_cons_succ, i64_w, i32_w]
    rfl
  refine pure_ (i := 1) (N := some 7) (v := ?_) (a' := ?_) #[true, true, false, false, false, false, false, false, false, false] rfl rfl (by kernel_rfl) (fun _ _ _ h => h) (Or.inl ⟨by rfl, ?_⟩) ?_ ?_
  rotate_left
  · intro w'
    go_simp
    with_reducible rfl
  rotate_left
  · simp only [Act.put, List.setIfInBounds_toArray, List.set_cons_zero, List.set_cons_succ, i64_w, i32_w]
    rfl
  refine pure_ (i := 2) (N := some 8) (v := ?_) (a' := ?_) #[true, true, true, false, false, false, false, false, false, false] rfl rfl (by kernel_rfl) (fun _ _ _ h => h) (Or.inl ⟨by rfl, ?_⟩) ?_ ?_
  rotate_left
  · intro w'
    go_simp
    with_reducible rfl
  rotate_left
  · simp only [Act.put, List.setIfInBounds_toArray, List.set_cons_zero, List.set_cons_succ, i64_w, i32_w]
    rfl
  refine pure_ (i := 4) (N := some 10) (v := ?_) (a' := ?_) #[true, true, true, false, true, false, false, false, false, false] rfl rfl (by kernel_rfl) (fun _ _ _ h => h) (Or.inl ⟨by rfl, ?_⟩) ?_ ?_
  rotate_left
  · intro w'
    go_simp
    with_reducible rfl
  rotate_left
  · simp only [Act.put, List.setIfInBounds_toArray, List.set_cons_zero, List.set_cons_succ, i64_w, i32_w]
    rfl
  refine pure_ (i := 5) (N := some 11) (v := ?_) (a' := ?_) #[true, true, true, false, true, true, false, false, false, false] rfl rfl (by kernel_rfl) (fun _ _ _ h => h) (Or.inl ⟨by rfl, ?_⟩) ?_ ?_
  rotate_left
  · intro w'
    go_simp
    with_reducible rfl
  rotate_left
  · simp only [Act.put, List.setIfInBounds_toArray, List.set_cons_zero, List.set_cons_succ, i64_w, i32_w]
    rfl
  refine pure_ (i := 6) (N := some 12) (v := ?_) (a' := ?_) #[true, true, true, false, true, true, true, false, false, false] rfl rfl (by kernel_rfl) (fun _ _ _ h => h) (Or.inl ⟨by rfl, ?_⟩) ?_ ?_
  rotate_left
  · intro w'
    go_simp
    with_reducible rfl
  rotate_left
  · simp only [Act.put, List.setIfInBounds_toArray, List.set_cons_zero, List.set_cons_succ, i64_w, i32_w]
    rfl
  refine take_ (i := 3) (N := some 9) (v := ?_) (a' := ?_) #[true, true, true, true, true, true, true, false, false, false] rfl rfl (by kernel_rfl) (fun _ _ _ h => h) (Or.inl ⟨by rfl, ?_⟩) hHeld ?_ ?_
  rotate_left
  · rintro w' ⟨s0, s1⟩
    go_simp
    with_reducible rfl
  rotate_left
  · simp only [Act.put, List.setIfInBounds_toArray, List.set_cons_zero, List.set_cons_succ, i64_w, i32_w]
    rfl
  refine take_ (i := 7) (N := some 13) (v := ?_) (a' := ?_) #[true, true, true, true, true, true, true, true, false, false] rfl rfl (by kernel_rfl) (fun _ _ _ h => h) (Or.inl ⟨by rfl, ?_⟩) hHeld ?_ ?_
  rotate_left
  · rintro w' ⟨s0, s1⟩
    go_simp
    with_reducible rfl
  rotate_left
  · simp only [Act.put, List.setIfInBounds_toArray, List.set_cons_zero, List.set_cons_succ, i64_w, i32_w]
    rfl
  refine one_ (i := 8) (N := some 14) #[true, true, true, true, true, true, true, true, true, false] rfl rfl (by kernel_rfl) (by decide) (fun K hK => ?_)
  refine goes_ Try.func54 (by kernel_rfl) rfl #[.pointer (some ⟨g, 0, none⟩), .int .i64 (x.file : Int)] (by rfl) rfl rfl (by first | rfl | (simp; done) | (simp only [List.map_toArray, List.map_cons, List.map_nil]; rfl)) ?_
  with_reducible refine (Sync_calls G g s (x.file : Int) _ (by repeat (first | exact HD3.out | (with_reducible refine IsD.dr ?_) | (with_reducible refine IsD.drN ?_ _))) HOK.out).mono ?_
  rw [HSY.out]
  rintro e w3 ⟨rfl, hI, hW⟩
  refine ⟨_, rfl, ?_⟩
  refine hK.out _ _ ⟨hW.cell hHeld.1 HNE.out, hW.cell hHeld.2 HNE.out⟩ (fun hHeld => ?_)
  clear hK K
  refine norm_ (a' := ?_) ?_ ?_
  rotate_left
  · show Act.put _ (some 14) _ = _
    simp only [Act.put, List.setIfInBounds_toArray, List.set_cons_zero, List.set_cons_succ, i64_w, i32_w]
    rfl
  refine pure_ (i := 9) (N := some 3) (v := ?_) (a' := ?_) #[true, true, true, true, true, true, true, true, true, true] rfl rfl (by kernel_rfl) (fun _ _ _ h => h) (Or.inl ⟨by rfl, ?_⟩) ?_ ?_
  rotate_left
  · intro w'
    go_simp
    with_reducible rfl
  rotate_left
  · simp only [Act.put, List.setIfInBounds_toArray, List.set_cons_zero, List.set_cons_succ, i64_w, i32_w]
    rfl
  refine done_ (by kernel_rfl) ?_
  have hwr : Wr g wr w3 := (Wr.of_below (below_drew1 (Below.refl _ _))).trans hW
  have HW3 := Aside0.mk hwr
  have HI := Aside0.mk hI
  have hb3 : w3.heap[t]? = some (.cells (tapeCells x bV (.slice A x.r.l.length c) g) 50 (0, 0)) := (hwr.block t (blk_lt HBL.out) HNE.out).trans HBL.out
  have HB3 := Aside0.mk hb3
  have hc2 : w3.cell? ⟨t, 2, none⟩ = some (.slice A x.r.l.length c) := (blk_cell hb3 2).trans rfl
  have hc5 : w3.cell? ⟨t, 5, none⟩ = some (.int .i64 (x.kept : Int)) := (blk_cell hb3 5).trans rfl
  have hf5 := blk_frozen hb3 5
  clear hI hW hwr hb3 hq3 hq4
  by_cases ce : e2 = 0
  · subst ce
    go_wp2
    go_ret
    rw [← HR.out]
    unfold syncT
    rw [HSY.out]
    rw [if_neg (fun h => h rfl)]
    have hws : Ws (TG t g) w w3 := (Ws.of_below HB.out).trans (Ws.of_wr HW3.out (.inr rfl))
    have hs := Ws.of_set w3 (P := TG t g) (.inl rfl) 5 (.int .i64 (x.r.l.length : Int))
    refine ⟨rfl, ?_, ?_, hws.trans hs⟩
    · exact IsT.put HB3.out hgt 5 _ rfl (Rw.wr HRS.out.1 HW3.out HI.out.gg) (HRS.out.2.ws (Ws.of_wr HW3.out (P := fun b => b = g) rfl) (fun b e => e ▸ HI.out.gg))
    · exact IsD.other HI.out (Wr.set (Wr.refl t w3) 5 _) hgt (Ne.symm HNE.out)
  · have d1 : (e2 != (0 : Int)) = true := by simpa using ce
    have d2 : (e2 == (0 : Int)) = false := by simpa using ce
    have HCE := Aside0.mk ce
    clear ce
    go_wp2
    go_ret
    rw [← HR.out]
    unfold syncT
    rw [HSY.out]
    rw [if_pos HCE.out]
    exact ⟨rfl, HT.out.wr HW3.out HI.out.gg (Ne.symm HNE.out), HI.out, (Ws.of_below HB.out).trans (Ws.of_wr HW3.out (.inr rfl))⟩
theorem cut_full {i : TypeInfo} (hi : Try.prog.info? 32 = some i) (A : Option Addr) (n c : Nat) (hc : n ≤ c) : ∀ W : World, (Instr.slice 46 (.slice A n c) none (some (.int .i64 (n : Int))) (some (.int .i64 (n : Int)))).run Try.prog W = .ok (.slice A n n) W := by
  intro W
  have hel : Try.prog.elem 46 = 32 := by simp [Program.elem, Try.underlying46]
  have hu : Try.prog.underlying 46 = some (.slice (Try.prog.elem 46)) := by rw [hel]; exact Try.underlying46
  have ha : (A.map fun x => x.add 0) = A := by cases A <;> simp [Addr.add]
  rw [run_slice_hm W 46 A n c hu .i64 .i64 (n : Int) (n : Int) (by omega) (by omega) (by omega), hel]
  simp [sizeOf, typeInfo, hi, sliced, Result.andThen, ha]
set_option maxHeartbeats 8000000 in
set_option maxRecDepth 100000 in
theorem TPutT_calls (G : Nat → Prop) (t g : Nat) (x : TS) (s : DS) (dV : Value) (d : List Int) (w : World) (hT : IsT G w t g x) (hD : IsD G w g s) (hok : Okk s) (hdv : Rw (TG t g) .u8 w dV d) (hbs : Bs d) (hdl : d.length < 1000000000) (hn : x.r.l.length < 1000000000) :
    Calls Try.prog 24 #[.pointer (some ⟨t, 0, none⟩), dV] w fun e w' => e = .returned (.int .i64 (putP x s d).2.2) ∧ IsT G w' t g (putP x s d).1 ∧ IsD G w' g (putP x s d).2.1 ∧ Ws (TG t g) w w' := by
  have HNE := Aside0.mk (hT.ne hD)
  have HDE := Aside0.mk (dead_calls G t g x w hT)
  have HOK := Aside0.mk hok
  have HT := Aside0.mk hT
  have HD := Aside0.mk hD
  have HDV := Aside0.mk hdv
  have HBS := Aside0.mk hbs
  have HN := Aside0.mk hn
  obtain ⟨A1, c1, rfl, hc1, hC1⟩ := Rw.slice hdv
  have HC := Aside0.mk (And.intro hc1 hC1)
  obtain ⟨r, hr⟩ : ∃ r, putP x s d = r := ⟨_, rfl⟩
  rw [hr]
  have HR := Aside0.mk hr
  clear hr hT hD hok hdv hbs hn hc1 hC1
  by_cases hlong : 8192 < d.length
  · have HS := Aside0.mk (show sealE d = ([], 4) from if_pos hlong)
    have HP := Aside0.mk (show putP x s d = (x, s, 4) from if_pos hlong)
    clear hlong hdl
    go_enter Try.func24, Try.ntmps24
    go_wp2_with (fail)
    refine HDE.out.mono ?_
    rintro e w1 ⟨rfl, ⟨n0, rfl⟩⟩
    go_wp2_with (fail)
    refine (Seal_calls A1 c1 d _ (Kd.C_drewN HC.out.2 n0) HC.out.1 HBS.out).mono ?_
    rw [HS.out]
    rintro e w1 ⟨v, rfl, hR, hB⟩
    have HB := Aside0.mk (below_step (pw_below_drewN (Below.refl w.heap.size w) n0) hB)
    clear hR hB
    go_wp2
    go_ret
    rw [← HR.out, HP.out]
    exact ⟨rfl, HT.out.below HB.out, HD.out.below HB.out, Ws.of_below HB.out⟩
  · have HS := Aside0.mk (show sealE d = (sealP d, 0) from if_neg hlong)
    have HLG := Aside0.mk hlong
    obtain ⟨s2, e2, hap⟩ : ∃ s2 e2, appendP s (x.file : Int) (sealP d) = (s2, e2) := ⟨_, _, rfl⟩
    have HAP := Aside0.mk hap
    have HLB := Aside0.mk (show (sealP d).length < 1000000000 by have := seal_len d; have := enc_len 9 d.length; omega)
    have HDL := Aside0.mk (show d.length < 140737488355328 by omega)
    clear hlong hdl hap
    go_enter Try.func24, Try.ntmps24
    go_wp2_with (fail)
    refine HDE.out.mono ?_
    rintro e w1 ⟨rfl, ⟨n0, rfl⟩⟩
    go_wp2_with (fail)
    refine (Seal_calls A1 c1 d _ (Kd.C_drewN HC.out.2 n0) HC.out.1 HBS.out).mono ?_
    rw [HS.out]
    rintro e w1 ⟨v, rfl, hR, hB⟩
    obtain ⟨B, cb, rfl⟩ := Kd.R_slice hR
    have HRB0 := Aside0.mk (Rw.of_R (G := fun b => b = g) hR (fun b e => e ▸ HD.out.ltg))
    have HB := Aside0.mk (below_step (pw_below_drewN (Below.refl w.heap.size w) n0) hB)
    clear hR hB
    go_wp2
    refine with_w (fun w' => IsT G w' t g x ∧ IsD G w' g s ∧ Rw (fun b => b = g) .u8 w' (.slice B (sealP d).length cb) (sealP d) ∧ Rw (TG t g) .u8 w' (.slice A1 d.length c1) d ∧ Below w.heap.size w w') ⟨HT.out.below HB.out, HD.out.below HB.out, HRB0.out, Rw.below HDV.out HB.out, HB.out⟩ ?_
    clear HT HD HDE HB HRB0 HDV HC
    rintro wr ⟨hT, hD, hRB, hDV, hB⟩
    have HT := Aside0.mk hT
    have HD3 := Aside0.mk hD
    have HB := Aside0.mk hB
    have HRB := Aside0.mk hRB
    have HDV := Aside0.mk hDV
    obtain ⟨hgt, bV, lV, hb, hBr, hLr⟩ := hT
    obtain ⟨A, c, rfl, hcl, _⟩ := hLr.slice
    have hq3 : wr.cell? ⟨t, 3, none⟩ = some (.pointer (some ⟨g, 0, none⟩)) := (blk_cell hb 3).trans rfl
    have hq4 : wr.cell? ⟨t, 4, none⟩ = some (.int .i64 (x.file : Int)) := (blk_cell hb 4).trans rfl
    have HBL := Aside0.mk hb
    have HRS := Aside0.mk (And.intro hBr hLr)
    clear hD hB hb hBr hLr hRB hDV
    refine start_ (n := 11) (S := fun w' => w'.cell? ⟨t, 3, none⟩ = some (.pointer (some ⟨g, 0, none⟩)) ∧ w'.cell? ⟨t, 4, none⟩ = some (.int .i64 (x.file : Int))) (ds := []) #[false, false, false, false, false, false, false, false, false, false, false] (by kernel_rfl) rfl rfl ⟨hq3, hq4⟩ (fun hHeld => ?_)
    refine pure_ (i := 0) (N := some 18) (v := ?_) (a' := ?_) #[true, false, false, false, false, false, false, false, false, false, false] rfl rfl (by kernel_rfl) (fun _ _ _ h => h) (Or.inl ⟨by rfl, ?_⟩) ?_ ?_
    rotate_left
    · intro w'
      go_simp
      with_reducible rfl
    rotate_left
    · simp only [Act.put, List.setIfInBounds_toArray, List.set_cons_zero, List.set_cons_succ, i64_w, i32_w]
      rfl
    refine pure_ (i := 1) (N := some 19) (v := ?_) (a' := ?_) #[true, true, false, false, false, false, false, false, false, false, false] rfl rfl (by kernel_rfl) (fun _ _ _ h => h) (Or.inl ⟨by rfl, ?_⟩) ?_ ?_
    rotate_left
    · intro w'
      go_simp
      with_reducible rfl
    rotate_left
    · simp only [Act.put, List.setIfInBounds_toArray, List.set_cons_zero, List.set_cons_succ, i64_w, i32_w]
      rfl
    refine pure_ (i := 2) (N := some 20) (v := ?_) (a' := ?_) #[true, true, true, false, false, false, false, false, false, false, false] rfl rfl (by kernel_rfl) (fun _ _ _ h => h) (Or.inl ⟨by rfl, ?_⟩) ?_ ?_
    rotate_left
    · intro w'
      go_simp
      with_reducible rfl
    rotate_left
    · simp only [Act.put, List.setIfInBounds_toArray, List.set_cons_zero, List.set_cons_succ, i64_w, i32_w]
      rfl
    refine pure_ (i := 4) (N := some 22) (v := ?_) (a' := ?_) #[true, true, true, false, true, false, false, false, false, false, false] rfl rfl (by kernel_rfl) (fun _ _ _ h => h) (Or.inl ⟨by rfl, ?_⟩) ?_ ?_
    rotate_left
    · intro w'
      go_simp
      with_reducible rfl
    rotate_left
    · simp only [Act.put, List.setIfInBounds_toArray, List.set_cons_zero, List.set_cons_succ, i64_w, i32_w]
      rfl
    refine pure_ (i := 5) (N := some 23) (v := ?_) (a' := ?_) #[true, true, true, false, true, true, false, false, false, false, false] rfl rfl (by kernel_rfl) (fun _ _ _ h => h) (Or.inl ⟨by rfl, ?_⟩) ?_ ?_
    rotate_left
    · intro w'
      go_simp
      with_reducible rfl
    rotate_left
    · simp only [Act.put, List.setIfInBounds_toArray, List.set_cons_zero, List.set_cons_succ, i64_w, i32_w]
      rfl
    refine pure_ (i := 6) (N := some 24) (v := ?_) (a' := ?_) #[true, true, true, false, true, true, true, false, false, false, false] rfl rfl (by kernel_rfl) (fun _ _ _ h => h) (Or.inl ⟨by rfl, ?_⟩) ?_ ?_
    rotate_left
    · intro w'
      go_simp
      with_reducible rfl
    rotate_left
    · simp only [Act.put, List.setIfInBounds_toArray, List.set_cons_zero, List.set_cons_succ, i64_w, i32_w]
      rfl
    refine pure_ (i := 8) (N := some 26) (v := ?_) (a' := ?_) #[true, true, true, false, true, true, true, false, true, false, false] rfl rfl (by kernel_rfl) (fun _ _ _ h => h) (Or.inl ⟨by rfl, ?_⟩) ?_ ?_
    rotate_left
    · intro w'
      go_simp
      with_reducible rfl
    rotate_left
    · simp only [Act.put, List.setIfInBounds_toArray, List.set_cons_zero, List.set_cons_succ, i64_w, i32_w]
      rfl
    refine take_ (i := 3) (N := some 21) (v := ?_) (a' := ?_) #[true, true, true, true, true, true, true, false, true, false, false] rfl rfl (by kernel_rfl) (fun _ _ _ h => h) (Or.inl ⟨by rfl, ?_⟩) hHeld ?_ ?_
    rotate_left
    · rintro w' ⟨s0, s1⟩
      go_simp
      with_reducible rfl
    rotate_left
    · simp only [Act.put, List.setIfInBounds_toArray, List.set_cons_zero, List.set_cons_succ, i64_w, i32_w]
      rfl
    refine take_ (i := 7) (N := some 25) (v := ?_) (a' := ?_) #[true, true, true, true, true, true, true, true, true, false, false] rfl rfl (by kernel_rfl) (fun _ _ _ h => h) (Or.inl ⟨by rfl, ?_⟩) hHeld ?_ ?_
    rotate_left
    · rintro w' ⟨s0, s1⟩
      go_simp
      with_reducible rfl
    rotate_left
    · simp only [Act.put, List.setIfInBounds_toArray, List.set_cons_zero, List.set_cons_succ, i64_w, i32_w]
      rfl
    refine one_ (i := 9) (N := some 27) #[true, true, true, true, true, true, true, true, true, true, false] rfl rfl (by kernel_rfl) (by decide) (fun K hK => ?_)
    refine goes_ Try.func32 (by kernel_rfl) rfl #[.pointer (some ⟨g, 0, none⟩), .int .i64 (x.file : Int), .slice B (sealP d).length cb] (by rfl) rfl rfl (by first | rfl | (simp; done) | (simp only [List.map_toArray, List.map_cons, List.map_nil]; rfl)) ?_
    with_reducible refine (Append_calls G g s (x.file : Int) (.slice B (sealP d).length cb) (sealP d) _ (by repeat (first | exact HD3.out | (with_reducible refine IsD.dr ?_) | (with_reducible refine IsD.drN ?_ _))) HOK.out (Rw.below HRB.out (below_drew1 (Below.refl _ _))) HLB.out).mono ?_
    rw [HAP.out]
    rintro e w3 ⟨rfl, hI, hW⟩
    refine ⟨_, rfl, ?_⟩
    refine hK.out _ _ ⟨hW.cell hHeld.1 HNE.out, hW.cell hHeld.2 HNE.out⟩ (fun hHeld => ?_)
    clear hK K
    refine norm_ (a' := ?_) ?_ ?_
    rotate_left
    · show Act.put _ (some 27) _ = _
      simp only [Act.put, List.setIfInBounds_toArray, List.set_cons_zero, List.set_cons_succ, i64_w, i32_w]
      rfl
    refine pure_ (i := 10) (N := some 7) (v := ?_) (a' := ?_) #[true, true, true, true, true, true, true, true, true, true, true] rfl rfl (by kernel_rfl) (fun _ _ _ h => h) (Or.inl ⟨by rfl, ?_⟩) ?_ ?_
    rotate_left
    · intro w'
      go_simp
      with_reducible rfl
    rotate_left
    · simp only [Act.put, List.setIfInBounds_toArray, List.set_cons_zero, List.set_cons_succ, i64_w, i32_w]
      rfl
    refine done_ (by kernel_rfl) ?_
    have hwr : Wr g wr w3 := (Wr.of_below (below_drew1 (Below.refl _ _))).trans hW
    have HW3 := Aside0.mk hwr
    have HI := Aside0.mk hI
    have HGG := Aside0.mk HI.out.gg
    clear hI hW hwr hq3 hq4
    by_cases ce : e2 = 0
    · subst ce
      have HP := Aside0.mk (show putP x s d = (⟨⟨x.r.gen, x.r.base, x.r.l ++ [d]⟩, x.file, x.kept⟩, s2, 0) by
        unfold putP
        rw [if_neg HLG.out, HAP.out]
        exact if_neg (fun h => h rfl))
      go_wp2
      refine with_w (fun w' => w'.heap[t]? = some (.cells (tapeCells x bV (.slice A x.r.l.length c) g) 50 (0, 0)) ∧ IsD G w' g s2 ∧ Rw G .u8 w' bV x.r.base ∧ Rs G w' (.slice A x.r.l.length c) x.r.l ∧ Rw (TG t g) .u8 w' (.slice A1 d.length c1) d ∧ Ws (TG t g) w w') ⟨(HW3.out.block t (blk_lt HBL.out) HNE.out).trans HBL.out, HI.out, Rw.wr HRS.out.1 HW3.out HGG.out, HRS.out.2.ws (Ws.of_wr HW3.out (P := fun b => b = g) rfl) (fun b e => e ▸ HGG.out), Rw.wr HDV.out HW3.out (.inr rfl), (Ws.of_below HB.out).trans (Ws.of_wr HW3.out (.inr rfl))⟩ ?_
      clear HT HD3 HB HRB HDV HBL HRS HW3 HI
      rintro w4 ⟨hq, hD, hBr, hLr, hDV, hW4⟩
      have HD4 := Aside0.mk hD
      have HGL := Aside0.mk hD.lt
      have HBR := Aside0.mk hBr
      have HLR := Aside0.mk hLr
      obtain ⟨A1', c1', ee, hc1, hC1⟩ := Rw.slice hDV
      injection ee with ee1 _ ee3
      subst ee1 ee3
      have HDC := Aside0.mk (And.intro hc1 hC1)
      have HW4 := Aside0.mk hW4
      obtain ⟨i0, hi0, _, hz1, _⟩ := info_parts Wk.info32
      have HCUT := cut_full hi0 A x.r.l.length c hcl
      clear hi0 hz1
      clear hD hBr hLr hDV hc1 hC1 hW4
      refine start_ (n := 27) (S := fun w' => w'.heap[t]? = some (.cells (tapeCells x bV (.slice A x.r.l.length c) g) 50 (0, 0))) (ds := [26]) #[false, false, false, false, false, false, false, false, false, false, false, false, false, false, false, false, false, false, false, false, false, false, false, false, false, false, false] (by kernel_rfl) rfl rfl (hq) (fun hHeld => ?_)
      refine pure_ (i := 0) (N := some 31) (v := ?_) (a' := ?_) #[true, false, false, false, false, false, false, false, false, false, false, false, false, false, false, false, false, false, false, false, false, false, false, false, false, false, false] rfl rfl (by kernel_rfl) (fun _ _ _ h => h) (Or.inl ⟨by rfl, ?_⟩) ?_ ?_
      rotate_left
      · intro w'
        go_simp
        with_reducible rfl
      rotate_left
      · simp only [Act.put, List.setIfInBounds_toArray, List.set_cons_zero, List.set_cons_succ, i64_w, i32_w]
        rfl
      refine pure_ (i := 1) (N := some 32) (v := ?_) (a' := ?_) #[true, true, false, false, false, false, false, false, false, false, false, false, false, false, false, false, false, false, false, false, false, false, false, false, false, false, false] rfl rfl (by kernel_rfl) (fun _ _ _ h => h) (Or.inl ⟨by rfl, ?_⟩) ?_ ?_
      rotate_left
      · intro w'
        go_simp
        with_reducible rfl
      rotate_left
      · simp only [Act.put, List.setIfInBounds_toArray, List.set_cons_zero, List.set_cons_succ, i64_w, i32_w]
        rfl
      refine pure_ (i := 2) (N := some 33) (v := ?_) (a' := ?_) #[true, true, true, false, false, false, false, false, false, false, false, false, false, false, false, false, false, false, false, false, false, false, false, false, false, false, false] rfl rfl (by kernel_rfl) (fun _ _ _ h => h) (Or.inl ⟨by rfl, ?_⟩) ?_ ?_
      rotate_left
      · intro w'
        go_simp
        with_reducible rfl
      rotate_left
      · simp only [Act.put, List.setIfInBounds_toArray, List.set_cons_zero, List.set_cons_succ, i64_w, i32_w]
        rfl
      refine pure_ (i := 3) (N := some 34) (v := ?_) (a' := ?_) #[true, true, true, true, false, false, false, false, false, false, false, false, false, false, false, false, false, false, false, false, false, false, false, false, false, false, false] rfl rfl (by kernel_rfl) (fun _ _ _ h => h) (Or.inl ⟨by rfl, ?_⟩) ?_ ?_
      rotate_left
      · intro w'
        go_simp
        with_reducible rfl
      rotate_left
      · simp only [Act.put, List.setIfInBounds_toArray, List.set_cons_zero, List.set_cons_succ, i64_w, i32_w]
        rfl
      refine pure_ (i := 4) (N := some 35) (v := ?_) (a' := ?_) #[true, true, true, true, true, false, false, false, false, false, false, false, false, false, false, false, false, false, false, false, false, false, false, false, false, false, false] rfl rfl (by kernel_rfl) (fun _ _ _ h => h) (Or.inl ⟨by rfl, ?_⟩) ?_ ?_
      rotate_left
      · intro w'
        go_simp
        with_reducible rfl
      rotate_left
      · simp only [Act.put, List.setIfInBounds_toArray, List.set_cons_zero, List.set_cons_succ, i64_w, i32_w]
        rfl
      refine pure_ (i := 6) (N := some 37) (v := ?_) (a' := ?_) #[true, true, true, true, true, false, true, false, false, false, false, false, false, false, false, false, false, false, false, false, false, false, false, false, false, false, false] rfl rfl (by kernel_rfl) (fun _ _ _ h => h) (Or.inl ⟨by rfl, ?_⟩) ?_ ?_
      rotate_left
      · intro w'
        go_simp
        with_reducible rfl
      rotate_left
      · simp only [Act.put, List.setIfInBounds_toArray, List.set_cons_zero, List.set_cons_succ, i64_w, i32_w]
        rfl
      refine pure_ (i := 7) (N := some 38) (v := ?_) (a' := ?_) #[true, true, true, true, true, false, true, true, false, false, false, false, false, false, false, false, false, false, false, false, false, false, false, false, false, false, false] rfl rfl (by kernel_rfl) (fun _ _ _ h => h) (Or.inl ⟨by rfl, ?_⟩) ?_ ?_
      rotate_left
      · intro w'
        go_simp
        with_reducible rfl
      rotate_left
      · simp only [Act.put, List.setIfInBounds_toArray, List.set_cons_zero, List.set_cons_succ, i64_w, i32_w]
        rfl
      refine pure_ (i := 8) (N := some 39) (v := ?_) (a' := ?_) #[true, true, true, true, true, false, true, true, true, false, false, false, false, false, false, false, false, false, false, false, false, false, false, false, false, false, false] rfl rfl (by kernel_rfl) (fun _ _ _ h => h) (Or.inl ⟨by rfl, ?_⟩) ?_ ?_
      rotate_left
      · intro w'
        go_simp
        with_reducible rfl
      rotate_left
      · simp only [Act.put, List.setIfInBounds_toArray, List.set_cons_zero, List.set_cons_succ, i64_w, i32_w]
        rfl
      refine pure_ (i := 9) (N := some 40) (v := ?_) (a' := ?_) #[true, true, true, true, true, false, true, true, true, true, false, false, false, false, false, false, false, false, false, false, false, false, false, false, false, false, false] rfl rfl (by kernel_rfl) (fun _ _ _ h => h) (Or.inl ⟨by rfl, ?_⟩) ?_ ?_
      rotate_left
      · intro w'
        go_simp
        with_reducible rfl
      rotate_left
      · simp only [Act.put, List.setIfInBounds_toArray, List.set_cons_zero, List.set_cons_succ, i64_w, i32_w]
        rfl
      refine pure_ (i := 12) (N := some 43) (v := ?_) (a' := ?_) #[true, true, true, true, true, false, true, true, true, true, false, false, true, false, false, false, false, false, false, false, false, false, false, false, false, false, false] rfl rfl (by kernel_rfl) (fun _ _ _ h => h) (Or.inl ⟨by rfl, ?_⟩) ?_ ?_
      rotate_left
      · intro w'
        go_simp
        with_reducible rfl
      rotate_left
      · simp only [Act.put, List.setIfInBounds_toArray, List.set_cons_zero, List.set_cons_succ, i64_w, i32_w]
        rfl
      refine pure_ (i := 13) (N := some 44) (v := ?_) (a' := ?_) #[true, true, true, true, true, false, true, true, true, true, false, false, true, true, false, false, false, false, false, false, false, false, false, false, false, false, false] rfl rfl (by kernel_rfl) (fun _ _ _ h => h) (Or.inl ⟨by rfl, ?_⟩) ?_ ?_
      rotate_left
      · intro w'
        go_simp
        with_reducible rfl
      rotate_left
      · simp only [Act.put, List.setIfInBounds_toArray, List.set_cons_zero, List.set_cons_succ, i64_w, i32_w]
        rfl
      refine pure_ (i := 14) (N := some 45) (v := ?_) (a' := ?_) #[true, true, true, true, true, false, true, true, true, true, false, false, true, true, true, false, false, false, false, false, false, false, false, false, false, false, false] rfl rfl (by kernel_rfl) (fun _ _ _ h => h) (Or.inl ⟨by rfl, ?_⟩) ?_ ?_
      rotate_left
      · intro w'
        go_simp
        with_reducible rfl
      rotate_left
      · simp only [Act.put, List.setIfInBounds_toArray, List.set_cons_zero, List.set_cons_succ, i64_w, i32_w]
        rfl
      refine pure_ (i := 15) (N := some 46) (v := ?_) (a' := ?_) #[true, true, true, true, true, false, true, true, true, true, false, false, true, true, true, true, false, false, false, false, false, false, false, false, false, false, false] rfl rfl (by kernel_rfl) (fun _ _ _ h => h) (Or.inl ⟨by rfl, ?_⟩) ?_ ?_
      rotate_left
      · intro w'
        go_simp
        with_reducible rfl
      rotate_left
      · simp only [Act.put, List.setIfInBounds_toArray, List.set_cons_zero, List.set_cons_succ, i64_w, i32_w]
        rfl
      refine pure_ (i := 19) (N := some 50) (v := ?_) (a' := ?_) #[true, true, true, true, true, false, true, true, true, true, false, false, true, true, true, true, false, false, false, true, false, false, false, false, false, false, false] rfl rfl (by kernel_rfl) (fun _ _ _ h => h) (Or.inl ⟨by rfl, ?_⟩) ?_ ?_
      rotate_left
      · intro w'
        go_simp
        with_reducible rfl
      rotate_left
      · simp only [Act.put, List.setIfInBounds_toArray, List.set_cons_zero, List.set_cons_succ, i64_w, i32_w]
        rfl
      refine take_ (i := 5) (N := some 36) (v := ?_) (a' := ?_) #[true, true, true, true, true, true, true, true, true, true, false, false, true, true, true, true, false, false, false, true, false, false, false, false, false, false, false] rfl rfl (by kernel_rfl) (fun _ _ _ h => h) (Or.inl ⟨by rfl, ?_⟩) hHeld ?_ ?_
      rotate_left
      · intro w' s0
        have d2_ := (blk_cell s0 2).trans (show _ = some (Value.slice A x.r.l.length c) from rfl)
        go_simp
        with_reducible rfl
      rotate_left
      · simp only [Act.put, List.setIfInBounds_toArray, List.set_cons_zero, List.set_cons_succ, i64_w, i32_w]
        rfl
      refine take_ (i := 10) (N := some 41) (v := ?_) (a' := ?_) #[true, true, true, true, true, true, true, true, true, true, true, false, true, true, true, true, false, false, false, true, false, false, false, false, false, false, false] rfl rfl (by kernel_rfl) (fun _ _ _ h => h) (Or.inl ⟨by rfl, ?_⟩) hHeld ?_ ?_
      rotate_left
      · intro w' s0
        have d2_ := (blk_cell s0 2).trans (show _ = some (Value.slice A x.r.l.length c) from rfl)
        go_simp
        with_reducible rfl
      rotate_left
      · simp only [Act.put, List.setIfInBounds_toArray, List.set_cons_zero, List.set_cons_succ, i64_w, i32_w]
        rfl
      refine pure_ (i := 11) (N := some 42) (v := ?_) (a' := ?_) #[true, true, true, true, true, true, true, true, true, true, true, true, true, true, true, true, false, false, false, true, false, false, false, false, false, false, false] rfl rfl (by kernel_rfl) (fun _ _ _ h => h) (Or.inl ⟨by rfl, ?_⟩) ?_ ?_
      rotate_left
      · intro w'
        go_simp
        with_reducible rfl
      rotate_left
      · simp only [Act.put, List.setIfInBounds_toArray, List.set_cons_zero, List.set_cons_succ, i64_w, i32_w]
        rfl
      refine take_ (i := 16) (N := some 47) (v := ?_) (a' := ?_) #[true, true, true, true, true, true, true, true, true, true, true, true, true, true, true, true, true, false, false, true, false, false, false, false, false, false, false] rfl rfl (by kernel_rfl) (fun _ _ _ h => h) (Or.inl ⟨by rfl, ?_⟩) hHeld ?_ ?_
      rotate_left
      · intro w' s0
        have d2_ := (blk_cell s0 2).trans (show _ = some (Value.slice A x.r.l.length c) from rfl)
        go_simp
        with_reducible rfl
      rotate_left
      · simp only [Act.put, List.setIfInBounds_toArray, List.set_cons_zero, List.set_cons_succ, i64_w, i32_w]
        rfl
      refine pure_ (i := 17) (N := some 48) (v := ?_) (a' := ?_) #[true, true, true, true, true, true, true, true, true, true, true, true, true, true, true, true, true, true, false, true, false, false, false, false, false, false, false] rfl rfl (by kernel_rfl) (fun _ _ _ h => h) (Or.inl ⟨by rfl, ?_⟩) ?_ ?_
      rotate_left
      · intro w'
        go_simp
        with_reducible rfl
      rotate_left
      · simp only [Act.put, List.setIfInBounds_toArray, List.set_cons_zero, List.set_cons_succ, i64_w, i32_w]
        rfl
      refine pure_ (i := 18) (N := some 49) (v := ?_) (a' := ?_) #[true, true, true, true, true, true, true, true, true, true, true, true, true, true, true, true, true, true, true, true, false, false, false, false, false, false, false] rfl rfl (by kernel_rfl) (fun _ _ _ h => h) (Or.inl ⟨by rfl, ?_⟩) ?_ ?_
      rotate_left
      · intro w'
        go_simp
        with_reducible rfl
      rotate_left
      · simp only [Act.put, List.setIfInBounds_toArray, List.set_cons_zero, List.set_cons_succ, i64_w, i32_w]
        rfl
      refine one_ (i := 20) (N := some 51) #[true, true, true, true, true, true, true, true, true, true, true, true, true, true, true, true, true, true, true, true, true, false, false, false, false, false, false] rfl rfl (by kernel_rfl) (by decide) (fun K hK => ?_)
      refine goes_ Try.func14 (by kernel_rfl) rfl #[.slice A1 d.length c1] (by rfl) rfl rfl (by first | rfl | (simp; done) | (simp only [List.map_toArray, List.map_cons, List.map_nil]; rfl)) ?_
      with_reducible refine (Clone_b A1 c1 d _ (Kd.C_drew HDC.out.2) HDC.out.1 HDL.out).mono ?_
      rintro e w5 ⟨v, rfl, hR, hb⟩
      refine ⟨_, rfl, ?_⟩
      obtain ⟨A5, c5, e5⟩ := Kd.R_slice hR
      subst e5
      have HB5 := Aside0.mk (below_step (below_drew1 (Below.refl w4.heap.size w4)) hb)
      have HR5 := Aside0.mk (Rw.of_R (G := G) hR (fun b hb => HGL.out b hb))
      have H5 := Aside0.mk (blk_below hHeld hb)
      clear hR
      refine hK.out _ _ (blk_below hHeld hb) (fun hHeld => ?_)
      clear hK K
      refine norm_ (a' := ?_) ?_ ?_
      rotate_left
      · show Act.put _ (some 51) _ = _
        simp only [Act.put, List.setIfInBounds_toArray, List.set_cons_zero, List.set_cons_succ, i64_w, i32_w]
        rfl
      refine one_ (i := 21) (N := some 52) #[true, true, true, true, true, true, true, true, true, true, true, true, true, true, true, true, true, true, true, true, true, true, false, false, false, false, false] rfl rfl (by kernel_rfl) (by decide) (fun K hK => ?_)
      refine value_ (w1 := ?_) (v := ?_) (by rfl) rfl ?_ ?_
      rotate_left 2
      · go_simp
        constructor
        · rfl
        · rfl
      refine hK.out _ _ (blk_alloc hHeld _) (fun hHeld => ?_)
      clear hK K
      refine norm_ (a' := ?_) ?_ ?_
      rotate_left
      · show Act.put _ (some 52) _ = _
        simp only [Act.put, List.setIfInBounds_toArray, List.set_cons_zero, List.set_cons_succ, i64_w, i32_w]
        rfl
      refine one_ (i := 22) (N := some 53) #[true, true, true, true, true, true, true, true, true, true, true, true, true, true, true, true, true, true, true, true, true, true, true, false, false, false, false] rfl rfl (by kernel_rfl) (by decide) (fun K hK => ?_)
      refine V_append_step (G := G) (W := w5) (by rfl) (.tmp 49) (.tmp 52) (by rfl) A c x.r.l (.slice A5 d.length c5) d (by rfl) (by rfl) ?aL ?aD ?aG ?aN ?_
      case aL => exact HLR.out.below HB5.out
      case aD => exact HR5.out
      case aG => exact fun b hb => Nat.lt_of_lt_of_le (HGL.out b hb) HB5.out.size
      case aN => exact HN.out
      intro v6 w6 h6 hb6
      obtain ⟨A6, c6, e6, _, _⟩ := h6.slice
      subst e6
      have H6 := Aside0.mk h6
      have HB6 := Aside0.mk (below_step HB5.out hb6)
      have HC6 := Aside0.mk (blk_below H5.out hb6)
      clear h6
      refine hK.out _ _ (HC6.out) (fun hHeld => ?_)
      clear hK K
      refine norm_ (a' := ?_) ?_ ?_
      rotate_left
      · show Act.put _ (some 53) _ = _
        simp only [Act.put, List.setIfInBounds_toArray, List.set_cons_zero, List.set_cons_succ, i64_w, i32_w]
        rfl
      refine pure_ (i := 23) (N := some 54) (v := ?_) (a' := ?_) #[true, true, true, true, true, true, true, true, true, true, true, true, true, true, true, true, true, true, true, true, true, true, true, true, false, false, false] rfl rfl (by kernel_rfl) (fun _ _ _ h => h) (Or.inl ⟨by rfl, ?_⟩) ?_ ?_
      rotate_left
      · intro w'
        go_simp
        with_reducible rfl
      rotate_left
      · simp only [Act.put, List.setIfInBounds_toArray, List.set_cons_zero, List.set_cons_succ, i64_w, i32_w]
        rfl
      refine pure_ (i := 24) (N := some 55) (v := ?_) (a' := ?_) #[true, true, true, true, true, true, true, true, true, true, true, true, true, true, true, true, true, true, true, true, true, true, true, true, true, false, false] rfl rfl (by kernel_rfl) (fun _ _ _ h => h) (Or.inl ⟨by rfl, ?_⟩) ?_ ?_
      rotate_left
      · intro w'
        go_simp
        with_reducible rfl
      rotate_left
      · simp only [Act.put, List.setIfInBounds_toArray, List.set_cons_zero, List.set_cons_succ, i64_w, i32_w]
        rfl
      refine pure_ (i := 25) (N := some 56) (v := ?_) (a' := ?_) #[true, true, true, true, true, true, true, true, true, true, true, true, true, true, true, true, true, true, true, true, true, true, true, true, true, true, false] rfl rfl (by kernel_rfl) (fun _ _ _ h => h) (Or.inl ⟨by rfl, ?_⟩) ?_ ?_
      rotate_left
      · intro w'
        go_simp
        with_reducible rfl
      rotate_left
      · simp only [Act.put, List.setIfInBounds_toArray, List.set_cons_zero, List.set_cons_succ, i64_w, i32_w]
        rfl
      refine last_ (i := 26) (N := none) #[true, true, true, true, true, true, true, true, true, true, true, true, true, true, true, true, true, true, true, true, true, true, true, true, true, true, true] rfl rfl (by kernel_rfl) (by decide) (fun K hK => ?_)
      have hcS := (blk_cell HC6.out 2).trans (show _ = some (Value.slice A x.r.l.length c) from rfl)
      have hfS := blk_frozen HC6.out 2
      refine skip_ (w1 := ?_) (by rfl) rfl ?_ ?_
      rotate_left
      · go_simp
        rfl
      refine hK.out _ _ ?_
      clear hK K
      refine done_ (by kernel_rfl) ?_
      go_wp2
      go_ret
      rw [← HR.out, HP.out]
      have hlen : (x.r.l ++ [d]).length = x.r.l.length + 1 := by simp
      rw [← hlen]
      have hs := Ws.of_set w6 (P := TG t g) (.inl rfl) 2 (.slice A6 (x.r.l ++ [d]).length c6)
      refine ⟨rfl, ?_, ?_, (HW4.out.trans (Ws.of_below HB6.out)).trans hs⟩
      · exact IsT.put (y := ⟨⟨x.r.gen, x.r.base, x.r.l ++ [d]⟩, x.file, x.kept⟩) HC6.out hgt 2 _ rfl (Rw.below HBR.out HB6.out) H6.out
      · exact IsD.other (HD4.out.below HB6.out) (Wr.set (Wr.refl t w6) 2 _) hgt (Ne.symm HNE.out)
    · have d1 : (e2 != (0 : Int)) = true := by simpa using ce
      have d2 : (e2 == (0 : Int)) = false := by simpa using ce
      have HP := Aside0.mk (show putP x s d = (x, s2, e2) by
        unfold putP
        rw [if_neg HLG.out, HAP.out]
        exact if_pos ce)
      clear ce
      go_wp2
      go_ret
      rw [← HR.out, HP.out]
      exact ⟨rfl, HT.out.wr HW3.out HGG.out (Ne.symm HNE.out), HI.out, (Ws.of_below HB.out).trans (Ws.of_wr HW3.out (.inr rfl))⟩
theorem TPut_calls (G : Nat → Prop) (t g : Nat) (x : TS) (s : DS) (dV : Value) (d : List Int) (w : World) (hT : IsT G w t g x) (hD : IsD G w g s) (hok : Okk s) (hdv : Rw G .u8 w dV d) (hbs : Bs d) (hdl : d.length < 1000000000) (hn : x.r.l.length < 1000000000) :
    Calls Try.prog 24 #[.pointer (some ⟨t, 0, none⟩), dV] w fun e w' => e = .returned (.int .i64 (putP x s d).2.2) ∧ IsT G w' t g (putP x s d).1 ∧ IsD G w' g (putP x s d).2.1 ∧ Ws (TG t g) w w' :=
  TPutT_calls G t g x s dV d w hT hD hok (hdv.grow (fun b _ hb => TG.sub hT hD b hb)) hbs hdl hn
end Go.Proofs.Ytehjbhnlbjbhfaa.Tp
-- TpF
namespace Go.Proofs.Ytehjbhnlbjbhfaa.Tp
open Go Go.RowKit Go.Proofs.YtehjbhnlbjbhfaaW.PrintWords Go.Proofs.YtehjbhnlbjbhfaaW.PrintLast Go.Proofs.YtehjbhnlbjbhfaaW.PrintMore Go.Proofs.Ytehjbhnlbjbhfaa.Wire Go.Proofs.Ytehjbhnlbjbhfaa.Wk Go.Proofs.Ytehjbhnlbjbhfaa.Dk
set_option linter.unusedVariables false
set_option linter.unusedSimpArgs false
theorem info5' : (Try.prog.info? 5).map (fun i => (i.zero, i.size, i.bytes)) = some (some (.int .u8 0), 1, 1) := by kernel_rfl
theorem tooLong_take {ls : List (List Int)} {j : Nat} (h : tooLong (ls.take j) = false) (hj : j < ls.length) (hd : ¬ 8192 < (ls.getD j []).length) : tooLong (ls.take (j + 1)) = false := by
  rw [List.take_add_one]
  unfold tooLong at *
  rw [List.any_append, h, List.getElem?_eq_getElem hj]
  rw [List.getD_eq_getElem?_getD, List.getElem?_eq_getElem hj] at hd
  simpa using hd
theorem tooLong_at {ls : List (List Int)} {j : Nat} (hj : j < ls.length) (hd : 8192 < (ls.getD j []).length) : tooLong ls = true := by
  unfold tooLong
  rw [List.getD_eq_getElem?_getD, List.getElem?_eq_getElem hj] at hd
  rw [List.any_eq_true]
  exact ⟨ls[j], List.getElem_mem hj, by simpa using hd⟩
theorem flat_take {ls : List (List Int)} {j : Nat} (hj : j < ls.length) : (ls.take (j + 1)).flatMap sealP = (ls.take j).flatMap sealP ++ sealP (ls.getD j []) := by
  rw [List.take_add_one, List.flatMap_append, List.getElem?_eq_getElem hj, List.getD_eq_getElem?_getD, List.getElem?_eq_getElem hj]
  simp
theorem flat_le (ls : List (List Int)) (j : Nat) : ((ls.take j).flatMap sealP).length ≤ (ls.flatMap sealP).length := by
  have : ls.flatMap sealP = (ls.take j).flatMap sealP ++ (ls.drop j).flatMap sealP := by rw [← List.flatMap_append, List.take_append_drop]
  rw [this, List.length_append]; omega
theorem seal_le {ls : List (List Int)} {j : Nat} (hj : j < ls.length) : (sealP (ls.getD j [])).length ≤ (ls.flatMap sealP).length := by
  have h1 := flat_take hj
  have h2 := flat_le ls (j + 1)
  rw [h1, List.length_append] at h2
  omega
structure SaveOk (x : TS) (base : List Int) (ls : List (List Int)) : Prop where
  gen : 0 ≤ x.r.gen ∧ x.r.gen < 9223372036854775807
  file : x.file ≤ 1
  bb : Bs base
  bl : ∀ d ∈ ls, Bs d
  base : base.length < 1000000000
  many : ls.length < 1000000000
  all : (ls.flatMap sealP).length < 900000000
theorem SaveOk.len {x : TS} {base : List Int} {ls : List (List Int)} (h : SaveOk x base ls) {j : Nat} (hj : j < ls.length) : (ls.getD j []).length < 900000000 := by
  have := seal_le hj
  have := seal_len (ls.getD j [])
  have := h.all
  omega
theorem SaveOk.bs {x : TS} {base : List Int} {ls : List (List Int)} (h : SaveOk x base ls) {j : Nat} (hj : j < ls.length) : Bs (ls.getD j []) := by
  rw [List.getD_eq_getElem?_getD, List.getElem?_eq_getElem hj]
  exact h.bl _ (List.getElem_mem hj)
theorem head_len {gen many : Int} {base : List Int} (h : base.length ≤ 8176) (he : (headE gen many base).2 = 0) : (headE gen many base).1.length < 9000 := by
  unfold headE sealE at *
  split at he
  · exact absurd he (by decide)
  · rename_i hl
    rw [if_neg hl]
    have := seal_len (Wire.encs [gen, many] ++ recP base)
    have := enc_len 9 (Wire.encs [gen, many] ++ recP base).length
    simp only
    omega
def SV (w0 : World) (hd : List Int) (ls : List (List Int)) (j : Nat) (v : Value) (W : World) : Prop :=
  Kd.R (Kd.int .u8) 5 W w0.heap.size (fun _ => True) v (hd ++ (ls.take j).flatMap sealP) ∧ Below w0.heap.size w0 W
def SL (w0 : World) (b : Nat) (gen : Int) (v5 : Value) (base : List Int) (os : List (List Int)) (v : Value) (W : World) : Prop :=
  W.heap[b]? = some (.cells #[.int .i64 gen, v5, v] 48 (0, 0)) ∧ Kd.R (Kd.int .u8) 5 W w0.heap.size (fun _ => True) v5 base ∧ Kd.R KdB 32 W w0.heap.size (fun _ => True) v os ∧ Below w0.heap.size w0 W
theorem cell_below {w0 w : World} {p : Addr} {v : Value} (h : w0.cell? p = some v) (hb : Below w0.heap.size w0 w) : w.cell? p = some v := (hb.cell (p := p) (World.block_lt_of_cell? w0 p h)).trans h
set_option maxHeartbeats 8000000 in
set_option maxRecDepth 100000 in
theorem SaveT_calls (G : Nat → Prop) (t g : Nat) (x : TS) (s : DS) (bV lV : Value) (base : List Int) (ls : List (List Int)) (w : World) (hT : IsT G w t g x) (hD : IsD G w g s) (hok : Okk s) (hb : Rw (TG t g) .u8 w bV base) (hl : Rs (TG t g) w lV ls) (hs : SaveOk x base ls) :
    Calls Try.prog 26 #[.pointer (some ⟨t, 0, none⟩), bV, lV] w fun e w' => e = .returned (.int .i64 (saveP x s base ls).2.2) ∧ IsT G w' t g (saveP x s base ls).1 ∧ IsD G w' g (saveP x s base ls).2.1 ∧ Ws (TG t g) w w' := by
  have HNE := Aside0.mk (hT.ne hD)
  have HDE := Aside0.mk (dead_calls G t g x w hT)
  have HOK := Aside0.mk hok
  have HT := Aside0.mk hT
  have HD := Aside0.mk hD
  have HBV := Aside0.mk hb
  have HLV := Aside0.mk hl
  have HSO := Aside0.mk hs
  obtain ⟨Ab, cb, rfl, hcb, hCb⟩ := Rw.slice hb
  obtain ⟨Al, cl, rfl, hcl, hCl⟩ := hl.slice
  have HCB := Aside0.mk (And.intro hcb hCb)
  have HCL := Aside0.mk (And.intro hcl hCl)
  obtain ⟨hgt, tb, tl, hblk, htb, htl⟩ := hT
  have HBLK := Aside0.mk hblk
  have hq0 : w.cell? ⟨t, 0, none⟩ = some (.int .i64 x.r.gen) := (blk_cell hblk 0).trans rfl
  have hgen := hs.gen
  have HW1 := Aside0.mk (show wrap64 (x.r.gen + 1) = x.r.gen + 1 by unfold wrap64; omega)
  obtain ⟨r, hr⟩ : ∃ r, saveP x s base ls = r := ⟨_, rfl⟩
  rw [hr]
  have HR := Aside0.mk hr
  clear hr hD hok hb hl hs hcb hCb hcl hCl hblk htb htl hgen
  by_cases c1 : 1099511627776 ≤ x.r.gen
  · have HP := Aside0.mk (show saveP x s base ls = (x, s, 5) from if_pos c1)
    have d1 : decide (x.r.gen ≥ (1099511627776 : Int)) = true := decide_eq_true c1
    have d2 : decide ((1099511627776 : Int) ≤ x.r.gen) = true := decide_eq_true c1
    clear c1
    go_enter Try.func26, Try.ntmps26
    go_wp2_with (fail)
    refine HDE.out.mono ?_
    rintro e w1 ⟨rfl, ⟨n0, rfl⟩⟩
    go_wp2
    go_ret
    rw [← HR.out, HP.out]
    exact ⟨rfl, HT.out.drN n0, HD.out.drN n0, Ws.of_below (pw_below_drewN (Below.refl _ _) n0)⟩
  have d1 : decide (x.r.gen ≥ (1099511627776 : Int)) = false := decide_eq_false c1
  have d2 : decide ((1099511627776 : Int) ≤ x.r.gen) = false := decide_eq_false c1
  have HC1 := Aside0.mk c1
  by_cases c2 : 8176 < base.length
  · have HP := Aside0.mk (show saveP x s base ls = (x, s, 4) by unfold saveP; rw [if_neg HC1.out, if_pos c2])
    have d3 : decide ((base.length : Int) > 8176) = true := decide_eq_true (by omega)
    have d4 : decide ((8176 : Int) < (base.length : Int)) = true := decide_eq_true (by omega)
    clear c1 c2
    go_enter Try.func26, Try.ntmps26
    go_wp2_with (fail)
    refine HDE.out.mono ?_
    rintro e w1 ⟨rfl, ⟨n0, rfl⟩⟩
    go_wp2
    go_ret
    rw [← HR.out, HP.out]
    exact ⟨rfl, HT.out.drN n0, HD.out.drN n0, Ws.of_below (pw_below_drewN (Below.refl _ _) n0)⟩
  have d3 : decide ((base.length : Int) > 8176) = false := decide_eq_false (by omega)
  have d4 : decide ((8176 : Int) < (base.length : Int)) = false := decide_eq_false (by omega)
  have HC2 := Aside0.mk c2
  clear c1 c2
  obtain ⟨hd, he, hhd⟩ : ∃ hd he, headE (x.r.gen + 1) (ls.length : Int) base = (hd, he) := ⟨_, _, rfl⟩
  have HHD := Aside0.mk hhd
  have HHC := Aside0.mk (fun (w' : World) (h1 : Kd.C (Kd.int .u8) w' Ab base.length base) => head_calls (x.r.gen + 1) (ls.length : Int) Ab cb base w' h1 HCB.out.1 HSO.out.bb (by have := HSO.out.gen; omega) (by have := HSO.out.many; omega) (by have := HSO.out.base; omega))
  rw [hhd] at HHC
  clear hhd
  by_cases c3 : he = 0
  rotate_left
  · have HP := Aside0.mk (show saveP x s base ls = (x, s, he) by unfold saveP; rw [if_neg HC1.out, if_neg HC2.out, HHD.out, if_pos c3])
    have d5 : (he != (0 : Int)) = true := by simpa using c3
    have d6 : (he == (0 : Int)) = false := by simpa using c3
    clear c3
    go_enter Try.func26, Try.ntmps26
    go_wp2_with (fail)
    refine HDE.out.mono ?_
    rintro e w1 ⟨rfl, ⟨n0, rfl⟩⟩
    go_wp2_with (fail)
    rw [HW1.out]
    refine (HHC.out _ (Kd.C_drewN HCB.out.2 n0)).mono ?_
    rintro e w1 ⟨v, rfl, hR, hB⟩
    have HB := Aside0.mk (below_step (pw_below_drewN (Below.refl w.heap.size w) n0) hB)
    clear hR hB
    go_wp2
    go_ret
    rw [← HR.out, HP.out]
    exact ⟨rfl, HT.out.below HB.out, HD.out.below HB.out, Ws.of_below HB.out⟩
  subst c3
  have HHL := Aside0.mk (show hd.length < 9000 by have := head_len (gen := x.r.gen + 1) (many := ls.length) (base := base) (by have := HC2.out; omega) (by rw [HHD.out]); rw [HHD.out] at this; exact this)
  have HTOO := Aside0.mk (show tooLong ls = true → saveP x s base ls = (x, s, 4) by
    intro c
    unfold saveP; rw [if_neg HC1.out, if_neg HC2.out, HHD.out, if_neg (fun h => h rfl), if_pos c])
  have HFIN := Aside0.mk (show tooLong ls = false → saveP x s base ls = saveW x s base ls (hd ++ ls.flatMap sealP) by
    intro c
    unfold saveP; rw [if_neg HC1.out, if_neg HC2.out, HHD.out, if_neg (fun h => h rfl), c, if_neg (by decide)])
  go_enter Try.func26, Try.ntmps26
  go_wp2_with (fail)
  refine HDE.out.mono ?_
  rintro e w1 ⟨rfl, ⟨n0, rfl⟩⟩
  go_wp2_with (fail)
  rw [HW1.out]
  refine (HHC.out _ (Kd.C_drewN HCB.out.2 n0)).mono ?_
  rintro e w1 ⟨v, rfl, hR, hB⟩
  obtain ⟨Ah, ch, rfl⟩ := Kd.R_slice hR
  have H0 := Aside0.mk (show SV w hd ls 0 (.slice Ah hd.length ch) w1 from ⟨by simpa using Kd.R_lower hR (Nat.le_refl _), below_step (pw_below_drewN (Below.refl w.heap.size w) n0) hB⟩)
  have P0 := Aside0.mk (show tooLong (ls.take 0) = false from rfl)
  clear hR hB hq0 HDE
  go_wp2
  go_loopg [7, 52] (ls.length) (fun f v7 v52 wr => ∃ (j : Nat) (A : Option Addr) (c : Nat), j + f = ls.length ∧ v7 = .slice A (hd ++ (ls.take j).flatMap sealP).length c ∧ v52 = .int .i64 (j : Int) ∧ Aside0 (SV w hd ls j (.slice A (hd ++ (ls.take j).flatMap sealP).length c) wr) ∧ Aside0 (tooLong (ls.take j) = false))
  case atStart => exact ⟨0, Ah, ch, by omega, by simp, rfl, by simpa using H0, P0⟩
  case round =>
    obtain ⟨j, A, c, hjf, rfl, rfl, H, P⟩ := hrel
    clear H0 P0
    obtain ⟨X, hX⟩ : ∃ X, hd ++ (ls.take j).flatMap sealP = X := ⟨_, rfl⟩
    have HX := Aside0.mk hX
    rw [hX] at H ⊢
    have HSV := Aside0.mk (show Kd.R (Kd.int .u8) 5 wr w.heap.size (fun _ => True) (.slice A X.length c) X ∧ Below w.heap.size w wr by rw [← HX.out] at H ⊢; exact H.out)
    have HJF := Aside0.mk hjf
    clear H hX
    by_cases hlt : j < ls.length
    · have e1 : decide ((j : Int) < (ls.length : Int)) = true := decide_eq_true (by omega)
      obtain ⟨ad, A2, c2, e0, hc2, hC2, hx⟩ := bb_get (Kd.C_below HCL.out.2 HSV.out.2) j hlt
      subst e0
      have HDL := Aside0.mk (HSO.out.len hlt)
      have HDB := Aside0.mk (HSO.out.bs hlt)
      have HT2 := Aside0.mk (fun h => tooLong_take P.out hlt h)
      have HTA := Aside0.mk (fun h => tooLong_at (ls := ls) hlt h)
      have HFT := Aside0.mk (flat_take hlt)
      have HFL := Aside0.mk (flat_le ls (j + 1))
      have hi1 : (j : Int) < (ls.length : Int) := by omega
      have hi0 : (0 : Int) ≤ (j : Int) := by omega
      generalize ls.getD j [] = D at *
      have HC2 := Aside0.mk (And.intro hc2 hC2)
      have hx2 : wr.cell? (ad.add ((j : Int).toNat * 1)) = some (.slice A2 D.length c2) := by rw [Int.toNat_natCast, Nat.mul_one]; exact hx
      clear hc2 hC2 hlt hjf
      by_cases c4 : 8192 < D.length
      · have HS := Aside0.mk (show sealE D = ([], 4) from if_pos c4)
        have HP := Aside0.mk (HTOO.out (HTA.out c4))
        clear c4
        go_wp2_with (fail)
        refine (Seal_calls A2 c2 D _ HC2.out.2 HC2.out.1 HDB.out).mono ?_
        rw [HS.out]
        rintro e w5 ⟨v5, rfl, hR, hB⟩
        have HB := Aside0.mk (below_step HSV.out.2 hB)
        clear hR hB
        go_wp2
        go_ret
        rw [← HR.out, HP.out]
        exact ⟨rfl, HT.out.below HB.out, HD.out.below HB.out, Ws.of_below HB.out⟩
      · have HS := Aside0.mk (show sealE D = (sealP D, 0) from if_neg c4)
        have P1 := Aside0.mk (HT2.out c4)
        clear c4
        go_wp2_with (fail)
        refine (Seal_calls A2 c2 D _ HC2.out.2 HC2.out.1 HDB.out).mono ?_
        rw [HS.out]
        rintro e w5 ⟨v5, rfl, hR, hB⟩
        obtain ⟨A5, c5, rfl⟩ := Kd.R_slice hR
        have HC5 := Aside0.mk (Kd.R_reads' hR)
        have HSV5 := Aside0.mk (And.intro (Kd.R_below HSV.out.1 hB) (below_step HSV.out.2 hB))
        have HLN := Aside0.mk (show (X.length + (sealP D).length) * 1 ≤ 140737488355328 by
          have h1 := HFL.out
          rw [HFT.out, List.length_append] at h1
          have h2 := HX.out
          have h3 : X.length = hd.length + ((ls.take j).flatMap sealP).length := by rw [← h2, List.length_append]
          have := HSO.out.all; have := HHL.out
          omega)
        have HW := Aside0.mk (show wrap64 ((j : Int) + 1) = ((j + 1 : Nat) : Int) by
          have := HSO.out.many
          unfold wrap64; omega)
        clear hR hB hx hx2
        go_wp2_with (first | ((with_reducible refine gate_builtin (b := .append) (xs := #[.tmp 64, .tmp 65]) rfl ?_); at_builtin; refine Kd.R_append_rows (Kd.int .u8) (w0 := w) w.heap.size rfl (.tmp 64) (.tmp 65) 32 5 (.int .u8 0) 1 rfl Try.underlying32 info5' rfl (by decide) (by omega) (.slice A X.length c) X (sealP D) A5 (sealP D).length c5 (fun _ => True) (fun _ => False) rfl rfl HSV5.out.1 HC5.out.2.2 (fun _ _ h => h) (fun _ h => h.elim) (fun _ _ => trivial) HSV5.out.2 HSV5.out.2.size HLN.out ?_; intro v1 w7 h1 h2 h3 _; have HR7 := Aside0.mk h1; have HB7 := Aside0.mk h2; clear h1 h2 h3))
        obtain ⟨A7, c7, e7⟩ := Kd.R_slice HR7.out
        subst e7
        rw [HW.out]
        have hXj : hd ++ (ls.take (j + 1)).flatMap sealP = X ++ sealP D := by rw [HFT.out, ← HX.out, List.append_assoc]
        go_roundg (gk - 1)
        case rel => exact ⟨j + 1, A7, c7, by have := HJF.out; have := hi1; omega, by rw [hXj], rfl, ⟨by rw [hXj]; exact HR7.out, HB7.out⟩, P1⟩
        case measure => have := HJF.out; have := hi1; omega
    · obtain rfl : j = ls.length := by omega
      have e1 : decide ((ls.length : Int) < (ls.length : Int)) = false := decide_eq_false (by omega)
      have HP := Aside0.mk (HFIN.out (by have := P.out; rw [List.take_length] at this; exact this))
      have HXA := Aside0.mk (show hd ++ ls.flatMap sealP = X by have := HX.out; rw [List.take_length] at this; exact this)
      rw [HXA.out] at HP
      have HXL := Aside0.mk (show X.length < 1000000000 by
        rw [← HXA.out, List.length_append]
        have := HSO.out.all; have := HHL.out
        omega)
      clear hlt hjf
      have HT1 := Aside0.mk (HT.out.below HSV.out.2)
      have HD1 := Aside0.mk (HD.out.below HSV.out.2)
      have HXW := Aside0.mk (Rw.of_R (G := fun b => b = g) HSV.out.1 (fun b e => e ▸ HD.out.ltg))
      have HB1 := Aside0.mk HSV.out.2
      have HK1 := Aside0.mk ((HSV.out.2.block t HT.out.lt).trans HBLK.out)
      have hq3 : wr.cell? ⟨t, 3, none⟩ = some (.pointer (some ⟨g, 0, none⟩)) := (blk_cell HK1.out 3).trans rfl
      have hq4 : wr.cell? ⟨t, 4, none⟩ = some (.int .i64 (x.file : Int)) := (blk_cell HK1.out 4).trans rfl
      obtain ⟨f, hf⟩ : ∃ f : Int, 1 - (x.file : Int) = f := ⟨_, rfl⟩
      have hw1 : wrap64 (1 - (x.file : Int)) = f := by have := HSO.out.file; unfold wrap64; omega
      have hw2 : IntKind.i64.wrap (1 - (x.file : Int)) = f := by have := HSO.out.file; clear hw1; exact (IntWalk.i64_in _ (by omega)).trans hf
      have HF := Aside0.mk hf
      obtain ⟨s1, ea, h1⟩ : ∃ s1 ea, clearP s f = (s1, ea) := ⟨_, _, rfl⟩
      obtain ⟨s2, eb, h2⟩ : ∃ s2 eb, appendP s1 f X = (s2, eb) := ⟨_, _, rfl⟩
      obtain ⟨s3, ec, h3⟩ : ∃ s3 ec, syncP s2 f = (s3, ec) := ⟨_, _, rfl⟩
      have HS1 := Aside0.mk h1
      have HS2 := Aside0.mk h2
      have HS3 := Aside0.mk h3
      have HOK1 := Aside0.mk (show Okk s1 by have := HOK.out.clear f; rw [h1] at this; exact this)
      have HOK2 := Aside0.mk (show Okk s2 by have := HOK1.out.append f X; rw [h2] at this; exact this)
      have HP1 := Aside0.mk (show ea ≠ 0 → saveP x s base ls = (x, s1, ea) by
        intro c
        rw [HP.out]; unfold saveW; simp only [hf, h1]; exact if_pos c)
      have HP2 := Aside0.mk (show ea = 0 → eb ≠ 0 → saveP x s base ls = (x, s2, eb) by
        intro c0 c
        rw [HP.out]; unfold saveW; simp only [hf, h1, h2]; rw [if_neg (fun h => h c0)]; exact if_pos c)
      have HP3 := Aside0.mk (show ea = 0 → eb = 0 → ec ≠ 0 → saveP x s base ls = (x, s3, ec) by
        intro c0 c1 c
        rw [HP.out]; unfold saveW; simp only [hf, h1, h2, h3]; rw [if_neg (fun h => h c0), if_neg (fun h => h c1)]; exact if_pos c)
      have HP4 := Aside0.mk (show ea = 0 → eb = 0 → ec = 0 → saveP x s base ls = (⟨⟨x.r.gen + 1, base, ls⟩, 1 - x.file, ls.length⟩, s3, 0) by
        intro c0 c1 c
        rw [HP.out]; unfold saveW; simp only [hf, h1, h2, h3]; rw [if_neg (fun h => h c0), if_neg (fun h => h c1), if_neg (fun h => h c)])
      clear h1 h2 h3 hf HP HFIN HTOO P HX HXA HSV HHC HHD
      go_wp2_with (fail)
      refine (Clear_calls G g s f _ HD1.out HOK.out).mono ?_
      rw [HS1.out]
      rintro e w2 ⟨rfl, hI, hW⟩
      have HI := Aside0.mk hI
      have HW2 := Aside0.mk hW
      have HGG := Aside0.mk hI.gg
      clear hI hW hq3 hq4
      by_cases ca : ea = 0
      rotate_left
      · have d7 : (ea != (0 : Int)) = true := by simpa using ca
        have d8 : (ea == (0 : Int)) = false := by simpa using ca
        have HPP := Aside0.mk (HP1.out ca)
        clear ca
        go_wp2
        go_ret
        rw [← HR.out, HPP.out]
        exact ⟨rfl, HT1.out.wr HW2.out HGG.out (Ne.symm HNE.out), HI.out, (Ws.of_below HB1.out).trans (Ws.of_wr HW2.out (.inr rfl))⟩
      subst ca
      have HK2 := Aside0.mk ((HW2.out.block t HT1.out.lt HNE.out).trans HK1.out)
      have hq3 : w2.cell? ⟨t, 3, none⟩ = some (.pointer (some ⟨g, 0, none⟩)) := (blk_cell HK2.out 3).trans rfl
      have HT2 := Aside0.mk (HT1.out.wr HW2.out HGG.out (Ne.symm HNE.out))
      go_wp2_with (fail)
      refine (Append_calls G g s1 f (.slice A X.length c) X _ HI.out HOK1.out (Rw.wr HXW.out HW2.out rfl) HXL.out).mono ?_
      rw [HS2.out]
      rintro e w3 ⟨rfl, hI, hW⟩
      have HI3 := Aside0.mk hI
      have HW3 := Aside0.mk (HW2.out.trans hW)
      clear hI hW hq3
      by_cases cb' : eb = 0
      rotate_left
      · have d7 : (eb != (0 : Int)) = true := by simpa using cb'
        have d8 : (eb == (0 : Int)) = false := by simpa using cb'
        have HPP := Aside0.mk (HP2.out (by first | rfl | trivial) cb')
        clear cb'
        go_wp2
        go_ret
        rw [← HR.out, HPP.out]
        exact ⟨rfl, HT1.out.wr HW3.out HGG.out (Ne.symm HNE.out), HI3.out, (Ws.of_below HB1.out).trans (Ws.of_wr HW3.out (.inr rfl))⟩
      subst cb'
      have HK3 := Aside0.mk ((HW3.out.block t HT1.out.lt HNE.out).trans HK1.out)
      have hq3 : w3.cell? ⟨t, 3, none⟩ = some (.pointer (some ⟨g, 0, none⟩)) := (blk_cell HK3.out 3).trans rfl
      go_wp2_with (fail)
      refine (Sync_calls G g s2 f _ HI3.out HOK2.out).mono ?_
      rw [HS3.out]
      rintro e w4 ⟨rfl, hI, hW⟩
      have HI4 := Aside0.mk hI
      have HW4 := Aside0.mk (HW3.out.trans hW)
      clear hI hW hq3
      by_cases cc' : ec = 0
      rotate_left
      · have d7 : (ec != (0 : Int)) = true := by simpa using cc'
        have d8 : (ec == (0 : Int)) = false := by simpa using cc'
        have HPP := Aside0.mk (HP3.out (by first | rfl | trivial) (by first | rfl | trivial) cc')
        clear cc'
        go_wp2
        go_ret
        rw [← HR.out, HPP.out]
        exact ⟨rfl, HT1.out.wr HW4.out HGG.out (Ne.symm HNE.out), HI4.out, (Ws.of_below HB1.out).trans (Ws.of_wr HW4.out (.inr rfl))⟩
      subst cc'
      have HPP := Aside0.mk (HP4.out (by first | rfl | trivial) (by first | rfl | trivial) (by first | rfl | trivial))
      clear HP1 HP2 HP3 HP4 HS1 HS2 HS3 HK2 HK3 HT2 HI HI3 HW2 HW3 HOK1 HOK2
      go_wp2
      refine with_w (fun w' => w'.heap[t]? = some (.cells (tapeCells x tb tl g) 50 (0, 0)) ∧ IsD G w' g s3 ∧ Rw (TG t g) .u8 w' (.slice Ab base.length cb) base ∧ Rs (TG t g) w' (.slice Al ls.length cl) ls ∧ Ws (TG t g) w w') ?_ ?_
      · have hws : Ws (TG t g) w w4 := (Ws.of_below HB1.out).trans (Ws.of_wr HW4.out (.inr rfl))
        exact ⟨(HW4.out.block t HT1.out.lt HNE.out).trans HK1.out, HI4.out, Rw.ws HBV.out hws (fun _ h => h), HLV.out.ws hws (fun _ h => h), hws⟩
      clear HI4 HW4 HK1 HB1 HXW HD1 HT1 HBV HLV HCL
      rintro wq ⟨hkq, hDq, hbq, hlq, hWq⟩
      have HKQ := Aside0.mk hkq
      have HDQ := Aside0.mk hDq
      have HBQ := Aside0.mk hbq
      have HLQ := Aside0.mk hlq
      have HWQ := Aside0.mk hWq
      obtain ⟨_, _, ee, _, hC⟩ := Rw.slice hbq
      injection ee with ee1 _ ee3
      subst ee1 ee3
      have HCQ := Aside0.mk hC
      obtain ⟨_, _, ee, hcl, hC2⟩ := hlq.slice
      injection ee with ee1 _ ee3
      subst ee1 ee3
      have HCL := Aside0.mk (And.intro hcl hC2)
      have HBLN := Aside0.mk (show base.length < 140737488355328 by have := HSO.out.base; omega)
      have hg1 : wrap64 (x.r.gen + 1) = x.r.gen + 1 := HW1.out
      have hg2 : IntKind.i64.wrap (x.r.gen + 1) = x.r.gen + 1 := by have := HSO.out.gen; clear hg1; exact IntWalk.i64_in _ (by omega)
      clear hkq hDq hbq hlq hWq hC hC2 hcl
      refine start_ (n := 11) (S := fun w' => w'.heap[t]? = some (.cells (tapeCells x tb tl g) 50 (0, 0)) ∧ Below wq.heap.size wq w') (ds := [10]) #[false, false, false, false, false, false, false, false, false, false, false] (by kernel_rfl) rfl rfl ⟨HKQ.out, below_drew1 (Below.refl _ _)⟩ (fun hHeld => ?_)
      refine pure_ (i := 0) (N := some 101) (v := ?_) (a' := ?_) #[true, false, false, false, false, false, false, false, false, false, false] rfl rfl (by kernel_rfl) (fun _ _ _ h => h) (Or.inl ⟨by rfl, ?_⟩) ?_ ?_
      rotate_left
      · intro w'
        go_simp
        with_reducible rfl
      rotate_left
      · simp only [Act.put, List.setIfInBounds_toArray, List.set_cons_zero, List.set_cons_succ, i64_w, i32_w]
        rfl
      refine pure_ (i := 1) (N := some 102) (v := ?_) (a' := ?_) #[true, true, false, false, false, false, false, false, false, false, false] rfl rfl (by kernel_rfl) (fun _ _ _ h => h) (Or.inl ⟨by rfl, ?_⟩) ?_ ?_
      rotate_left
      · intro w'
        go_simp
        with_reducible rfl
      rotate_left
      · simp only [Act.put, List.setIfInBounds_toArray, List.set_cons_zero, List.set_cons_succ, i64_w, i32_w]
        rfl
      refine pure_ (i := 2) (N := some 103) (v := ?_) (a' := ?_) #[true, true, true, false, false, false, false, false, false, false, false] rfl rfl (by kernel_rfl) (fun _ _ _ h => h) (Or.inl ⟨by rfl, ?_⟩) ?_ ?_
      rotate_left
      · intro w'
        go_simp
        with_reducible rfl
      rotate_left
      · simp only [Act.put, List.setIfInBounds_toArray, List.set_cons_zero, List.set_cons_succ, i64_w, i32_w]
        rfl
      refine pure_ (i := 3) (N := some 104) (v := ?_) (a' := ?_) #[true, true, true, true, false, false, false, false, false, false, false] rfl rfl (by kernel_rfl) (fun _ _ _ h => h) (Or.inl ⟨by rfl, ?_⟩) ?_ ?_
      rotate_left
      · intro w'
        go_simp
        with_reducible rfl
      rotate_left
      · simp only [Act.put, List.setIfInBounds_toArray, List.set_cons_zero, List.set_cons_succ, i64_w, i32_w]
        rfl
      refine pure_ (i := 6) (N := some 107) (v := ?_) (a' := ?_) #[true, true, true, true, false, false, true, false, false, false, false] rfl rfl (by kernel_rfl) (fun _ _ _ h => h) (Or.inl ⟨by rfl, ?_⟩) ?_ ?_
      rotate_left
      · intro w'
        go_simp
        with_reducible rfl
      rotate_left
      · simp only [Act.put, List.setIfInBounds_toArray, List.set_cons_zero, List.set_cons_succ, i64_w, i32_w]
        rfl
      refine take_ (i := 4) (N := some 105) (v := ?_) (a' := ?_) #[true, true, true, true, true, false, true, false, false, false, false] rfl rfl (by kernel_rfl) (fun _ _ _ h => h) (Or.inl ⟨by rfl, ?_⟩) hHeld ?_ ?_
      rotate_left
      · rintro w' ⟨s0, s1⟩
        have d2_ := (blk_cell s0 0).trans (show _ = some (Value.int .i64 x.r.gen) from rfl)
        go_simp
        with_reducible rfl
      rotate_left
      · simp only [Act.put, List.setIfInBounds_toArray, List.set_cons_zero, List.set_cons_succ, i64_w, i32_w]
        rfl
      refine pure_ (i := 5) (N := some 106) (v := ?_) (a' := ?_) #[true, true, true, true, true, true, true, false, false, false, false] rfl rfl (by kernel_rfl) (fun _ _ _ h => h) (Or.inl ⟨by rfl, ?_⟩) ?_ ?_
      rotate_left
      · intro w'
        go_simp
        with_reducible rfl
      rotate_left
      · simp only [Act.put, List.setIfInBounds_toArray, List.set_cons_zero, List.set_cons_succ, i64_w, i32_w]
        rfl
      refine join_ (σ := Nat × Option Addr × Nat) 1 #[true, true, true, true, true, true, true, true, true, true, false] (fun s => [(17, .pointer (some ⟨s.1, 0, none⟩)), (108, .slice s.2.1 base.length s.2.2), (109, .agg #[.int .i64 (x.r.gen + 1), .slice s.2.1 base.length s.2.2, .slice none 0 0])]) (fun s w' => w'.heap[s.1]? = some (.cells #[.int .i64 0, .slice none 0 0, .slice none 0 0] 48 (0, 0)) ∧ Kd.R (Kd.int .u8) 5 w' wq.heap.size (fun _ => True) (.slice s.2.1 base.length s.2.2) base ∧ wq.heap.size ≤ s.1 ∧ w'.heap[t]? = some (.cells (tapeCells x tb tl g) 50 (0, 0)) ∧ Below wq.heap.size wq w') ?_ ?_
      rotate_left
      · intro hCont
        refine two_ (i := 7) (j := 9) (Ni := some 108) (Nj := some 17) #[true, true, true, true, true, true, true, true, false, false, false] #[true, true, true, true, true, true, true, false, false, true, false] rfl rfl rfl rfl (by kernel_rfl) (by decide) (by decide) (fun K hK => ?_) (fun K hK => ?_)
        · skip
          refine goes_ Try.func14 (by kernel_rfl) rfl #[.slice Ab base.length cb] (by rfl) rfl rfl (by first | rfl | (simp; done) | (simp only [List.map_toArray, List.map_cons, List.map_nil]; rfl)) ?_
          with_reducible refine (Clone_b Ab cb base _ (Kd.C_below HCQ.out hHeld.2) HCB.out.1 HBLN.out).mono ?_
          rintro e w5 ⟨v, rfl, hR, hb⟩
          refine ⟨_, rfl, ?_⟩
          obtain ⟨A5, c5, e5⟩ := Kd.R_slice hR
          subst e5
          have HR5 := Aside0.mk (Kd.R_lower hR hHeld.2.size)
          clear hR
          refine hK.out _ _ ⟨blk_below hHeld.1 hb, below_step hHeld.2 hb⟩ (fun hHeld => ?_)
          clear hK K
          refine norm_ (a' := ?_) ?_ ?_
          rotate_left
          · show Act.put _ (some 108) _ = _
            simp only [Act.put, List.setIfInBounds_toArray, List.set_cons_zero, List.set_cons_succ, i64_w, i32_w]
            rfl
          refine pure_ (i := 8) (N := some 109) (v := ?_) (a' := ?_) #[true, true, true, true, true, true, true, true, true, false, false] rfl rfl (by kernel_rfl) (fun _ _ _ h => h) (Or.inl ⟨by rfl, ?_⟩) ?_ ?_
          rotate_left
          · intro w'
            go_simp
            with_reducible rfl
          rotate_left
          · simp only [Act.put, List.setIfInBounds_toArray, List.set_cons_zero, List.set_cons_succ, i64_w, i32_w]
            rfl
          refine one_ (i := 9) (N := some 17) #[true, true, true, true, true, true, true, true, true, true, false] rfl rfl (by kernel_rfl) (by decide) (fun K hK => ?_)
          refine box_step (by rfl) (N := 17) rfl (cs := #[.int .i64 0, .slice none 0 0, .slice none 0 0]) (t := 48) ?hr ?_
          case hr => first | (go_simp; done) | (go_simp; rfl)
          intro b9 hb9 w9 hblk9 hbel9
          have HA9 := Aside0.mk hblk9
          have HG9 := Aside0.mk (show wq.heap.size ≤ b9 by have h_ := hHeld.2.size; omega)
          have n0_ := Aside0.mk (Kd.R_below HR5.out hbel9)
          clear HR5
          have HR5 := n0_
          clear n0_
          clear hblk9 hb9
          refine hK.out _ _ ⟨blk_below hHeld.1 hbel9, below_step hHeld.2 hbel9⟩ (fun hHeld => ?_)
          clear hK K
          refine norm_ (a' := ?_) ?_ ?_
          rotate_left
          · show Act.put _ (some 17) _ = _
            simp only [Act.put, List.setIfInBounds_toArray, List.set_cons_zero, List.set_cons_succ, i64_w, i32_w]
            rfl
          exact norm_ (by simp only [putAll, Act.put, List.setIfInBounds_toArray, List.set_cons_zero, List.set_cons_succ]) (hCont ⟨b9, A5, c5⟩ _ ⟨HA9.out, HR5.out, HG9.out, hHeld.1, hHeld.2⟩)
        · skip
          refine box_step (by rfl) (N := 17) rfl (cs := #[.int .i64 0, .slice none 0 0, .slice none 0 0]) (t := 48) ?hr ?_
          case hr => first | (go_simp; done) | (go_simp; rfl)
          intro b9 hb9 w9 hblk9 hbel9
          have HA9 := Aside0.mk hblk9
          have HG9 := Aside0.mk (show wq.heap.size ≤ b9 by have h_ := hHeld.2.size; omega)
          clear hblk9 hb9
          refine hK.out _ _ ⟨blk_below hHeld.1 hbel9, below_step hHeld.2 hbel9⟩ (fun hHeld => ?_)
          clear hK K
          refine norm_ (a' := ?_) ?_ ?_
          rotate_left
          · show Act.put _ (some 17) _ = _
            simp only [Act.put, List.setIfInBounds_toArray, List.set_cons_zero, List.set_cons_succ, i64_w, i32_w]
            rfl
          refine one_ (i := 7) (N := some 108) #[true, true, true, true, true, true, true, true, false, true, false] rfl rfl (by kernel_rfl) (by decide) (fun K hK => ?_)
          refine goes_ Try.func14 (by kernel_rfl) rfl #[.slice Ab base.length cb] (by rfl) rfl rfl (by first | rfl | (simp; done) | (simp only [List.map_toArray, List.map_cons, List.map_nil]; rfl)) ?_
          with_reducible refine (Clone_b Ab cb base _ (Kd.C_below HCQ.out hHeld.2) HCB.out.1 HBLN.out).mono ?_
          rintro e w5 ⟨v, rfl, hR, hb⟩
          refine ⟨_, rfl, ?_⟩
          obtain ⟨A5, c5, e5⟩ := Kd.R_slice hR
          subst e5
          have HR5 := Aside0.mk (Kd.R_lower hR hHeld.2.size)
          have n0_ := Aside0.mk (blk_below HA9.out hb)
          clear HA9
          have HA9 := n0_
          clear n0_
          clear hR
          refine hK.out _ _ ⟨blk_below hHeld.1 hb, below_step hHeld.2 hb⟩ (fun hHeld => ?_)
          clear hK K
          refine norm_ (a' := ?_) ?_ ?_
          rotate_left
          · show Act.put _ (some 108) _ = _
            simp only [Act.put, List.setIfInBounds_toArray, List.set_cons_zero, List.set_cons_succ, i64_w, i32_w]
            rfl
          refine pure_ (i := 8) (N := some 109) (v := ?_) (a' := ?_) #[true, true, true, true, true, true, true, true, true, true, false] rfl rfl (by kernel_rfl) (fun _ _ _ h => h) (Or.inl ⟨by rfl, ?_⟩) ?_ ?_
          rotate_left
          · intro w'
            go_simp
            with_reducible rfl
          rotate_left
          · simp only [Act.put, List.setIfInBounds_toArray, List.set_cons_zero, List.set_cons_succ, i64_w, i32_w]
            rfl
          exact norm_ (by simp only [putAll, Act.put, List.setIfInBounds_toArray, List.set_cons_zero, List.set_cons_succ]) (hCont ⟨b9, A5, c5⟩ _ ⟨HA9.out, HR5.out, HG9.out, hHeld.1, hHeld.2⟩)
      rintro ⟨b9, A5, c5⟩ w5 ⟨h9, hR5, hg9, hk5, hb5⟩
      have hHeld := And.intro hk5 hb5
      refine norm_ (a' := ?_) ?_ ?_
      rotate_left
      · simp only [putAll, Act.put, List.setIfInBounds_toArray, List.set_cons_zero, List.set_cons_succ]
        rfl
      refine last_ (i := 10) (N := none) #[true, true, true, true, true, true, true, true, true, true, true] rfl rfl (by kernel_rfl) (by decide) (fun K hK => ?_)
      have hc0S := (blk_cell h9 0).trans (show _ = some (Value.int .i64 0) from rfl)
      have hf0S := blk_frozen h9 0
      have hc1S := (blk_cell h9 1).trans (show _ = some (Value.slice none 0 0) from rfl)
      have hf1S := blk_frozen h9 1
      have hc2S := (blk_cell h9 2).trans (show _ = some (Value.slice none 0 0) from rfl)
      have hf2S := blk_frozen h9 2
      refine skip_ (w1 := ?_) (by rfl) rfl ?_ ?_
      rotate_left
      · go_simp
        rfl
      refine hK.out _ _ ?_
      clear hK K
      refine done_ (by kernel_rfl) ?_
      have HE3 := Aside0.mk (show ((w5.setCell ⟨b9, 0, none⟩ (.int .i64 (x.r.gen + 1))).setCell ⟨b9, 1, none⟩ (.slice A5 base.length c5)).setCell ⟨b9, 2, none⟩ (.slice none 0 0) = ((w5.setCell ⟨b9, 0, none⟩ (.int .i64 (x.r.gen + 1))).setCell ⟨b9, 1, none⟩ (.slice A5 base.length c5)).setCell ⟨b9, 2, none⟩ (.slice none 0 0) from rfl)
      have ht5 : ∀ q, q ∈ 5 :: (Kd.int .u8).E → q ≠ 48 := by
        intro q hq
        have h9 : q = 5 := by simpa [Kd.int, Kd.scalar] using hq
        omega
      have k1 := blk_put (cs' := #[.int .i64 (x.r.gen + 1), .slice none 0 0, .slice none 0 0]) h9 0 (.int .i64 (x.r.gen + 1)) rfl
      have r1 := Kd.R_set hR5 h9 ht5 0 (.int .i64 (x.r.gen + 1))
      have b1 := hb5.setCell (p := ⟨b9, 0, none⟩) hg9 (.int .i64 (x.r.gen + 1))
      have k2 := blk_put (cs' := #[.int .i64 (x.r.gen + 1), .slice A5 base.length c5, .slice none 0 0]) k1 1 (.slice A5 base.length c5) rfl
      have r2 := Kd.R_set r1 k1 ht5 1 (.slice A5 base.length c5)
      have b2 := b1.setCell (p := ⟨b9, 1, none⟩) hg9 (.slice A5 base.length c5)
      have k3 := blk_put (cs' := #[.int .i64 (x.r.gen + 1), .slice A5 base.length c5, .slice none 0 0]) k2 2 (.slice none 0 0) rfl
      have r3 := Kd.R_set r2 k2 ht5 2 (.slice none 0 0)
      have b3 := b2.setCell (p := ⟨b9, 2, none⟩) hg9 (.slice none 0 0)
      go_wp2
      refine with_w (fun w' => SL wq b9 (x.r.gen + 1) (.slice A5 base.length c5) base [] (.slice none 0 0) w') ⟨k3, r3, Kd.R_nil _ _ _ _ _, b3⟩ ?_
      have HG9 := Aside0.mk hg9
      clear HE3 k1 k2 k3 r1 r2 r3 b1 b2 b3 h9 hR5 hg9 hk5 hb5 ht5 HCQ hg1 hg2
      rintro wl hsl
      have HS0 := Aside0.mk hsl
      clear hsl
      go_loopg [112] (ls.length) (fun fu v112 wr => ∃ (j : Nat) (lv : Value), j + fu = ls.length ∧ v112 = .int .i64 (j : Int) ∧ Aside0 (SL wq b9 (x.r.gen + 1) (.slice A5 base.length c5) base (ls.take j) lv wr))
      case atStart => exact ⟨0, _, by omega, rfl, HS0⟩
      case round =>
        obtain ⟨j, lv, hjf, rfl, H⟩ := hrel
        clear HS0
        have HJF := Aside0.mk hjf
        obtain ⟨O, hO⟩ : ∃ O, ls.take j = O := ⟨_, rfl⟩
        have HO := Aside0.mk hO
        rw [hO] at H
        obtain ⟨Ax, cx, rfl⟩ := Kd.R_slice H.out.2.2.1
        have HKW := Aside0.mk H.out.1
        have HR5W := Aside0.mk H.out.2.1
        have HRL := Aside0.mk H.out.2.2.1
        have HBW := Aside0.mk H.out.2.2.2
        clear H hO
        by_cases hlt : j < ls.length
        · have e1 : decide ((j : Int) < (ls.length : Int)) = true := decide_eq_true (by omega)
          obtain ⟨ad, A2, c2, e0, hc2, hC2, hx⟩ := bb_get (Kd.C_below HCL.out.2 HBW.out) j hlt
          obtain ⟨ad', A2', c2', e0', hc2', hC2', hx'⟩ := bb_get HCL.out.2 j hlt
          subst e0
          injection e0' with e0'
          subst e0'
          have hsame : A2 = A2' ∧ c2 = c2' := by
            have h1 := cell_below hx' HBW.out
            rw [hx] at h1
            injection h1 with h1
            injection h1 with h1 _ h2
            exact ⟨h1, h2⟩
          obtain ⟨rfl, rfl⟩ := hsame
          have HDL := Aside0.mk (show (ls.getD j []).length < 140737488355328 by have := HSO.out.len hlt; omega)
          have hi1 : (j : Int) < (ls.length : Int) := by omega
          have hi0 : (0 : Int) ≤ (j : Int) := by omega
          have HTK := Aside0.mk (show ls.take (j + 1) = O ++ [ls.getD j []] by rw [← HO.out, List.take_add_one, List.getElem?_eq_getElem hlt, List.getD_eq_getElem?_getD, List.getElem?_eq_getElem hlt]; rfl)
          have HOL := Aside0.mk (show (O.length + 1) * 24 ≤ 140737488355328 by
            have h1 : O.length ≤ ls.length := by rw [← HO.out, List.length_take]; omega
            have := HSO.out.many
            omega)
          have HFK := Aside0.mk (Kd.fresh_ok HRL.out)
          have HW := Aside0.mk (show wrap64 ((j : Int) + 1) = ((j + 1 : Nat) : Int) by
            have := HSO.out.many
            unfold wrap64; omega)
          generalize ls.getD j [] = D at *
          have HC2 := Aside0.mk (And.intro hc2 hC2')
          have hx2 : wr.cell? (ad.add ((j : Int).toNat * 1)) = some (.slice A2 D.length c2) := by rw [Int.toNat_natCast, Nat.mul_one]; exact hx
          clear hc2 hC2 hc2' hC2' hx' hlt hjf
          go_wp2
          refine start_ (n := 8) (S := fun w' => w'.heap[b9]? = some (.cells #[.int .i64 (x.r.gen + 1), .slice A5 base.length c5, .slice Ax O.length cx] 48 (0, 0)) ∧ Below wq.heap.size wq w') (ds := [7]) #[false, false, false, false, false, false, false, false] (by kernel_rfl) rfl rfl ⟨HKW.out, below_drew1 HBW.out⟩ (fun hHeld => ?_)
          refine pure_ (i := 0) (N := some 116) (v := ?_) (a' := ?_) #[true, false, false, false, false, false, false, false] rfl rfl (by kernel_rfl) (fun _ _ _ h => h) (Or.inl ⟨by rfl, ?_⟩) ?_ ?_
          rotate_left
          · intro w'
            go_simp
            with_reducible rfl
          rotate_left
          · simp only [Act.put, List.setIfInBounds_toArray, List.set_cons_zero, List.set_cons_succ, i64_w, i32_w]
            rfl
          refine pure_ (i := 2) (N := some 118) (v := ?_) (a' := ?_) #[true, false, true, false, false, false, false, false] rfl rfl (by kernel_rfl) (fun _ _ _ h => h) (Or.inl ⟨by rfl, ?_⟩) ?_ ?_
          rotate_left
          · intro w'
            go_simp
            with_reducible rfl
          rotate_left
          · simp only [Act.put, List.setIfInBounds_toArray, List.set_cons_zero, List.set_cons_succ, i64_w, i32_w]
            rfl
          refine take_ (i := 1) (N := some 117) (v := ?_) (a' := ?_) #[true, true, true, false, false, false, false, false] rfl rfl (by kernel_rfl) (fun _ _ _ h => h) (Or.inl ⟨by rfl, ?_⟩) hHeld ?_ ?_
          rotate_left
          · rintro w' ⟨s0, s1⟩
            have d2_ := (blk_cell s0 2).trans (show _ = some (Value.slice Ax O.length cx) from rfl)
            go_simp
            with_reducible rfl
          rotate_left
          · simp only [Act.put, List.setIfInBounds_toArray, List.set_cons_zero, List.set_cons_succ, i64_w, i32_w]
            rfl
          refine one_ (i := 3) (N := some 119) #[true, true, true, true, false, false, false, false] rfl rfl (by kernel_rfl) (by decide) (fun K hK => ?_)
          refine goes_ Try.func14 (by kernel_rfl) rfl #[.slice A2 D.length c2] (by rfl) rfl rfl (by first | rfl | (simp; done) | (simp only [List.map_toArray, List.map_cons, List.map_nil]; rfl)) ?_
          with_reducible refine (Clone_b A2 c2 D _ (Kd.C_below HC2.out.2 hHeld.2) HC2.out.1 HDL.out).mono ?_
          rintro e w6 ⟨v, rfl, hR, hb⟩
          refine ⟨_, rfl, ?_⟩
          obtain ⟨A6, c6, e6⟩ := Kd.R_slice hR
          subst e6
          have HR6 := Aside0.mk (Kd.R_lower hR (Nat.le_refl wr.heap.size))
          have H6 := Aside0.mk (blk_below hHeld.1 hb)
          have HB6 := Aside0.mk (below_step (below_drew1 (Below.refl wr.heap.size wr)) hb)
          clear hR
          refine hK.out _ _ ⟨blk_below hHeld.1 hb, below_step hHeld.2 hb⟩ (fun hHeld => ?_)
          clear hK K
          refine norm_ (a' := ?_) ?_ ?_
          rotate_left
          · show Act.put _ (some 119) _ = _
            simp only [Act.put, List.setIfInBounds_toArray, List.set_cons_zero, List.set_cons_succ, i64_w, i32_w]
            rfl
          refine one_ (i := 4) (N := some 120) #[true, true, true, true, true, false, false, false] rfl rfl (by kernel_rfl) (by decide) (fun K hK => ?_)
          refine value_ (w1 := ?_) (v := ?_) (by rfl) rfl ?_ ?_
          rotate_left 2
          · go_simp
            constructor
            · rfl
            · rfl
          refine hK.out _ _ ⟨blk_alloc hHeld.1 _, below_alloc hHeld.2 _⟩ (fun hHeld => ?_)
          clear hK K
          refine norm_ (a' := ?_) ?_ ?_
          rotate_left
          · show Act.put _ (some 120) _ = _
            simp only [Act.put, List.setIfInBounds_toArray, List.set_cons_zero, List.set_cons_succ, i64_w, i32_w]
            rfl
          refine one_ (i := 5) (N := some 121) #[true, true, true, true, true, true, false, false] rfl rfl (by kernel_rfl) (by decide) (fun K hK => ?_)
          refine Kd.R_append_step KdB (w0 := wq) (W := w6) wq.heap.size (by rfl) (.tmp 117) (.tmp 120) 46 32 (.slice none 0 0) 24 (by rfl) Try.underlying46 info32 rfl (by decide) (by omega) (.slice Ax O.length cx) O D [.slice A6 D.length c6] (fun _ => True) (fun k => wr.heap.size ≤ k) (by rfl) (by rfl) ?aM ?aK (fun _ _ => trivial) ?aR ?aB ?aS ?aL ?_
          case aM => exact ⟨_, rfl, Kd.R_lower (Kd.R_mono (Kd.R_bound HR6.out) (fun k hk => hk.2.1)) HBW.out.size⟩
          case aK => exact fun k hk => ⟨trivial, HFK.out k hk⟩
          case aR => exact Kd.R_below HRL.out HB6.out
          case aB => exact below_step HBW.out HB6.out
          case aS => exact Nat.le_trans HBW.out.size HB6.out.size
          case aL => exact HOL.out
          intro v7 w7 h7 hb7 hg7 _
          obtain ⟨A7, c7, e7⟩ := Kd.R_slice h7
          subst e7
          have H7 := Aside0.mk ((hg7.block b9 (blk_lt H6.out) (Kd.R_ne (Kd.R_below HRL.out HB6.out) H6.out (by decide))).trans H6.out)
          have HR7 := Aside0.mk h7
          have HB7 := Aside0.mk hb7
          have HR57 := Aside0.mk (Kd.R_grown2 (Kd.R_below HR5W.out HB6.out) rfl hg7 (fun k hk => by obtain ⟨cells, hc_⟩ := Kd.R_typed (Kd.R_below HRL.out HB6.out) k hk; exact Kd.R_ne (Kd.R_below HR5W.out HB6.out) hc_ (by decide)))
          clear h7 hg7
          refine hK.out _ _ ⟨H7.out, HB7.out⟩ (fun hHeld => ?_)
          clear hK K
          refine norm_ (a' := ?_) ?_ ?_
          rotate_left
          · show Act.put _ (some 121) _ = _
            simp only [Act.put, List.setIfInBounds_toArray, List.set_cons_zero, List.set_cons_succ, i64_w, i32_w]
            rfl
          refine pure_ (i := 6) (N := some 122) (v := ?_) (a' := ?_) #[true, true, true, true, true, true, true, false] rfl rfl (by kernel_rfl) (fun _ _ _ h => h) (Or.inl ⟨by rfl, ?_⟩) ?_ ?_
          rotate_left
          · intro w'
            go_simp
            with_reducible rfl
          rotate_left
          · simp only [Act.put, List.setIfInBounds_toArray, List.set_cons_zero, List.set_cons_succ, i64_w, i32_w]
            rfl
          refine last_ (i := 7) (N := none) #[true, true, true, true, true, true, true, true] rfl rfl (by kernel_rfl) (by decide) (fun K hK => ?_)
          have hcS := (blk_cell H7.out 2).trans (show _ = some (Value.slice Ax O.length cx) from rfl)
          have hfS := blk_frozen H7.out 2
          refine skip_ (w1 := ?_) (by rfl) rfl ?_ ?_
          rotate_left
          · go_simp
            rfl
          refine hK.out _ _ ?_
          clear hK K
          refine done_ (by kernel_rfl) ?_
          have ht5 : ∀ q, q ∈ 5 :: (Kd.int .u8).E → q ≠ 48 := by
            intro q hq
            have h9 : q = 5 := by simpa [Kd.int, Kd.scalar] using hq
            omega
          have ht32 : ∀ q, q ∈ 32 :: KdB.E → q ≠ 48 := by
            intro q hq
            have h9 : q = 32 ∨ q = 5 := by simpa [KdB, Kd.slice, Kd.int, Kd.scalar] using hq
            omega
          have hln : (O ++ [D]).length = O.length + 1 := by simp
          have k := blk_put (cs' := #[.int .i64 (x.r.gen + 1), .slice A5 base.length c5, .slice A7 (O ++ [D]).length c7]) H7.out 2 (.slice A7 (O ++ [D]).length c7) rfl
          have r5 := Kd.R_set HR57.out H7.out ht5 2 (.slice A7 (O ++ [D]).length c7)
          have rl := Kd.R_set HR7.out H7.out ht32 2 (.slice A7 (O ++ [D]).length c7)
          have b := HB7.out.setCell (p := ⟨b9, 2, none⟩) HG9.out (.slice A7 (O ++ [D]).length c7)
          rw [hln] at k r5 rl b
          have HK8 := Aside0.mk k
          have HR58 := Aside0.mk r5
          have HRL8 := Aside0.mk rl
          have HB8 := Aside0.mk b
          clear k r5 rl b ht5 ht32 hln
          go_wp2
          rw [HW.out]
          go_roundg (gk - 1)
          case rel => exact ⟨j + 1, .slice A7 (O.length + 1) c7, by have := HJF.out; have := hi1; omega, rfl, ⟨by rw [HTK.out]; exact ⟨HK8.out, HR58.out, HRL8.out, HB8.out⟩⟩⟩
          case measure => have := HJF.out; have := hi1; omega
        · obtain rfl : j = ls.length := by omega
          have e1 : decide ((ls.length : Int) < (ls.length : Int)) = false := decide_eq_false (by omega)
          have hOl : O = ls := by rw [← HO.out, List.take_length]
          subst hOl
          have hb0 : wr.cell? ⟨b9, 0, none⟩ = some (.int .i64 (x.r.gen + 1)) := (blk_cell HKW.out 0).trans rfl
          have hb1 : wr.cell? ⟨b9, 1, none⟩ = some (.slice A5 base.length c5) := (blk_cell HKW.out 1).trans rfl
          have hb2 : wr.cell? ⟨b9, 2, none⟩ = some (.slice Ax O.length cx) := (blk_cell HKW.out 2).trans rfl
          have ktr := (HBW.out.block t (blk_lt HKQ.out)).trans HKQ.out
          have KTR := Aside0.mk ktr
          have ht0 := (blk_cell ktr 0).trans (show _ = some (Value.int .i64 x.r.gen) from rfl)
          have ht1 := (blk_cell ktr 1).trans (show _ = some tb from rfl)
          have ht2 := (blk_cell ktr 2).trans (show _ = some tl from rfl)
          have ht4 := (blk_cell ktr 4).trans (show _ = some (Value.int .i64 (x.file : Int)) from rfl)
          have ht5 := (blk_cell ktr 5).trans (show _ = some (Value.int .i64 (x.kept : Int)) from rfl)
          have hf0 := blk_frozen ktr 0
          have hf1 := blk_frozen ktr 1
          have hf2 := blk_frozen ktr 2
          have hf4 := blk_frozen ktr 4
          have hf5 := blk_frozen ktr 5
          clear ktr hlt hjf
          go_wp2
          go_ret
          rw [← HR.out, HPP.out]
          have hfe : f = ((1 - x.file : Nat) : Int) := by have := HF.out; have := HSO.out.file; omega
          subst hfe
          have q0 := blk_put (cs' := #[.int .i64 (x.r.gen + 1), tb, tl, .pointer (some ⟨g, 0, none⟩), .int .i64 (x.file : Int), .int .i64 (x.kept : Int)]) KTR.out 0 (.int .i64 (x.r.gen + 1)) rfl
          have q1 := blk_put (cs' := #[.int .i64 (x.r.gen + 1), .slice A5 base.length c5, tl, .pointer (some ⟨g, 0, none⟩), .int .i64 (x.file : Int), .int .i64 (x.kept : Int)]) q0 1 (.slice A5 base.length c5) rfl
          have q2 := blk_put (cs' := #[.int .i64 (x.r.gen + 1), .slice A5 base.length c5, .slice Ax O.length cx, .pointer (some ⟨g, 0, none⟩), .int .i64 (x.file : Int), .int .i64 (x.kept : Int)]) q1 2 (.slice Ax O.length cx) rfl
          have q4 := blk_put (cs' := #[.int .i64 (x.r.gen + 1), .slice A5 base.length c5, .slice Ax O.length cx, .pointer (some ⟨g, 0, none⟩), .int .i64 ((1 - x.file : Nat) : Int), .int .i64 (x.kept : Int)]) q2 4 (.int .i64 ((1 - x.file : Nat) : Int)) rfl
          have q5 := blk_put (cs' := #[.int .i64 (x.r.gen + 1), .slice A5 base.length c5, .slice Ax O.length cx, .pointer (some ⟨g, 0, none⟩), .int .i64 ((1 - x.file : Nat) : Int), .int .i64 (O.length : Int)]) q4 5 (.int .i64 (O.length : Int)) rfl
          have hwr := (((((Wr.refl t wr).set 0 (.int .i64 (x.r.gen + 1))).set 1 (.slice A5 base.length c5)).set 2 (.slice Ax O.length cx)).set 4 (.int .i64 ((1 - x.file : Nat) : Int))).set 5 (.int .i64 (O.length : Int))
          have hws : Ws (fun b => b = t) wr _ := Ws.of_wr hwr rfl
          refine ⟨rfl, ⟨hgt, _, _, q5, Rw.ws (Rw.of_R HR5W.out (G := G) HDQ.out.lt) hws (fun b e => e ▸ hgt), (Rs.of_R HRL.out (G := G) HDQ.out.lt).ws hws (fun b e => e ▸ hgt)⟩, ?_, (HWQ.out.trans (Ws.of_below HBW.out)).trans (Ws.of_wr hwr (.inl rfl))⟩
          exact IsD.other (HDQ.out.below HBW.out) hwr hgt (Ne.symm HNE.out)
theorem Save_calls (G : Nat → Prop) (t g : Nat) (x : TS) (s : DS) (bV lV : Value) (base : List Int) (ls : List (List Int)) (w : World) (hT : IsT G w t g x) (hD : IsD G w g s) (hok : Okk s) (hb : Rw G .u8 w bV base) (hl : Rs G w lV ls) (hs : SaveOk x base ls) :
    Calls Try.prog 26 #[.pointer (some ⟨t, 0, none⟩), bV, lV] w fun e w' => e = .returned (.int .i64 (saveP x s base ls).2.2) ∧ IsT G w' t g (saveP x s base ls).1 ∧ IsD G w' g (saveP x s base ls).2.1 ∧ Ws (TG t g) w w' :=
  SaveT_calls G t g x s bV lV base ls w hT hD hok (hb.grow (fun b _ h => TG.sub hT hD b h)) (hl.grow (fun b _ h => TG.sub hT hD b h)) hs
end Go.Proofs.Ytehjbhnlbjbhfaa.Tp
-- WRd
namespace Go.Proofs.Ytehjbhnlbjbhfaa.Wk
open Go Go.RowKit Go.Proofs.YtehjbhnlbjbhfaaW.PrintWords Go.Proofs.YtehjbhnlbjbhfaaW.PrintLast Go.Proofs.YtehjbhnlbjbhfaaW.PrintMore Go.Proofs.Ytehjbhnlbjbhfaa.Wire
open Go.Proofs.Ytehjbhnlbjbhfaa.WBase
set_option linter.unusedVariables false
theorem Err_made (g : Nat) (s : List Int) (p er : Int) (w0 w : World) (hI : IsS146 w0 w g s p er true) : Calls Try.prog 95 #[.pointer (some ⟨g, 0, none⟩)] w fun e w' => e = .returned (.int .i64 er) ∧ Drawn0 w w' := by
  obtain ⟨A, c, HG, hg, HS⟩ := hI
  have hc_2 := cellS62_2 HG
  have hc_3 := cellS62_3 HG
  clear hg HG HS
  go_enter Try.func95, Try.ntmps95
  go_wp2
  go_ret
  exact ⟨rfl, 0, rfl⟩
theorem Left_made (g : Nat) (s : List Int) (p : Nat) (er : Int) (w0 w : World) (hI : IsS146 w0 w g s (p : Int) er true) (her : er ≠ 6) (hp : p ≤ s.length) (hlen : s.length < 140737488355328) : Calls Try.prog 93 #[.pointer (some ⟨g, 0, none⟩)] w fun e w' => e = .returned (.int .i64 ((s.length - p : Nat) : Int)) ∧ Drawn0 w w' := by
  have HI := Aside0.mk hI
  have HP := Aside0.mk hp
  have HL := Aside0.mk hlen
  have d6 : (er == (6 : Int)) = false := by simpa using her
  obtain ⟨A, c, HG, hg, HS⟩ := hI
  have hc_0 := cellS62_0 HG
  have hc_1 := cellS62_1 HG
  clear hg HG HS hp hlen her
  go_enter Try.func93, Try.ntmps93
  go_wp2_with (fail)
  refine (Err_made g s p er w0 _ HI.out).mono ?_
  rintro e w1 ⟨rfl, ⟨n0, rfl⟩⟩
  go_wp2
  go_quiet (fail)
  go_wp2
  have hw : wrap64 ((s.length : Int) - (p : Int)) = ((s.length - p : Nat) : Int) := by
    have := HP.out; have := HL.out
    unfold wrap64; omega
  go_ret
  exact ⟨by rw [← hw]; rfl, Drawn0.step ⟨⟨n0, rfl⟩⟩ nq⟩
def numV (q : Nat × Nat × Int) : Nat := if q.2.2 = 0 then q.1 else 0
def numA (p : Nat) (q : Nat × Nat × Int) : Nat := if q.2.2 = 0 then p + q.2.1 else p
theorem Number_made (g : Nat) (s : List Int) (p : Nat) (w0 w : World) (hI : IsS146 w0 w g s (p : Int) 0 true) (hB : Below w0.heap.size w0 w) (hs : Bs s) (hlen : s.length < 140737488355328) (hp : p ≤ s.length) :
    Calls Try.prog 94 #[.pointer (some ⟨g, 0, none⟩)] w fun e w' => e = .returned (.int .u64 (numV (num (s.drop p)) : Nat)) ∧ IsS146 w0 w' g s (numA p (num (s.drop p)) : Nat) (num (s.drop p)).2.2 true ∧ Below w0.heap.size w0 w' ∧ KeepBut w w' g none := by
  have hN := Number_eq s hs hlen p hp 36 (by decide)
  have h2 : wire_Reader_Number.f 36 s (p : Int) 0 true = some (((numV (num (s.drop p)) : Nat) : Int), ((numA p (num (s.drop p)) : Nat) : Int), (num (s.drop p)).2.2, true) := by
    rw [hN]
    unfold res numV numA
    by_cases c : (num (s.drop p)).2.2 = 0
    · rw [if_pos c, if_pos c, if_pos c, c]
    · rw [if_neg c, if_neg c, if_neg c]; rfl
  exact wire_Reader_Number.calls 36 g s p 0 true _ _ _ _ w0 w hI hB h2
theorem num_err (r : List Int) : (num r).2.2 = 0 ∨ (num r).2.2 = 2 ∨ (num r).2.2 = 5 ∨ (num r).2.2 = 10 := by
  have : ∀ (r : List Int) (i n : Nat), (numGo i n r).2.2 = 0 ∨ (numGo i n r).2.2 = 2 ∨ (numGo i n r).2.2 = 5 ∨ (numGo i n r).2.2 = 10 := by
    intro r
    induction r with
    | nil => intro i n; simp [numGo]
    | cons x r ih =>
      intro i n
      unfold numGo
      split
      · simp
      · split
        · simp
        · split
          · simp
          · exact ih _ _
  exact this r 0 0
end Go.Proofs.Ytehjbhnlbjbhfaa.Wk
-- TpG
namespace Go.Proofs.Ytehjbhnlbjbhfaa.Tp
open Go Go.RowKit Go.Proofs.YtehjbhnlbjbhfaaW.PrintWords Go.Proofs.YtehjbhnlbjbhfaaW.PrintLast Go.Proofs.YtehjbhnlbjbhfaaW.PrintMore Go.Proofs.Ytehjbhnlbjbhfaa.Wire Go.Proofs.Ytehjbhnlbjbhfaa.Wk Go.Proofs.Ytehjbhnlbjbhfaa.Dk
open Go.Proofs.Ytehjbhnlbjbhfaa.WBase
set_option linter.unusedVariables false
set_option linter.unusedSimpArgs false
theorem Number_any (g : Nat) (s : List Int) (p : Nat) (er : Int) (w0 w : World) (hI : IsS146 w0 w g s (p : Int) er true) (hB : Below w0.heap.size w0 w) (he : er ≠ 0) :
    Calls Try.prog 94 #[.pointer (some ⟨g, 0, none⟩)] w fun e w' => e = .returned (.int .u64 0) ∧ IsS146 w0 w' g s (p : Int) er true ∧ Below w0.heap.size w0 w' ∧ KeepBut w w' g none :=
  wire_Reader_Number.calls 1 g s p er true 0 p er true w0 w hI hB (by unfold wire_Reader_Number.f wire_Reader_Err.f; rw [if_pos rfl, Option.bind_some, if_neg he])
set_option maxHeartbeats 8000000 in
set_option maxRecDepth 100000 in
theorem Within_calls (g : Nat) (s : List Int) (p : Nat) (er lo hi : Int) (w0 w : World) (hI : IsS146 w0 w g s (p : Int) er true) (hB : Below w0.heap.size w0 w) (hs : Bs s) (hlen : s.length < 140737488355328) (hp : p ≤ s.length) (her : er ≠ 6) :
    Calls Try.prog 80 #[.pointer (some ⟨g, 0, none⟩), .int .i64 lo, .int .i64 hi] w fun e w' => e = .returned (.int .i64 (withinP s lo hi p er).1) ∧ IsS146 w0 w' g s ((withinP s lo hi p er).2.1 : Int) (withinP s lo hi p er).2.2 true ∧ Below w0.heap.size w0 w' ∧ KeepBut w w' g none := by
  have HI := Aside0.mk hI
  have HB := Aside0.mk hB
  have HLF := Aside0.mk (Left_made g s p er w0 w hI her hp hlen)
  obtain ⟨r, hr⟩ : ∃ r, withinP s lo hi p er = r := ⟨_, rfl⟩
  rw [hr]
  have HR := Aside0.mk hr
  clear hr
  by_cases c0 : er = 0
  rotate_left
  · have HP := Aside0.mk (show withinP s lo hi p er = (0, p, er) by unfold withinP; rw [if_pos c0])
    have HC := Aside0.mk c0
    have d1 : (er != (0 : Int)) = true := by simpa using c0
    have d2 : (er == (0 : Int)) = false := by simpa using c0
    clear hI hB hs hlen hp her c0
    go_enter Try.func80, Try.ntmps80
    go_wp2_with (fail)
    refine HLF.out.mono ?_
    rintro e w1 ⟨rfl, ⟨n0, rfl⟩⟩
    go_wp2_with (fail)
    refine (Number_any g s p er w0 _ (IsS146.drewN HI.out n0) (pw_below_drewN HB.out n0) HC.out).mono ?_
    rintro e w2 ⟨rfl, hI2, hB2, hK2⟩
    have HI2 := Aside0.mk hI2
    have HB2 := Aside0.mk hB2
    have HK2 := Aside0.mk hK2
    clear hI2 hB2 hK2
    go_wp2_with (fail)
    refine (Err_made g s p er w0 _ HI2.out).mono ?_
    rintro e w3 ⟨rfl, ⟨n1, rfl⟩⟩
    go_wp2
    go_ret
    rw [← HR.out, HP.out]
    exact ⟨rfl, IsS146.drewN HI2.out n1, pw_below_drewN HB2.out n1, keep_drewN HK2.out n1⟩
  subst c0
  have HNM := Aside0.mk (fun (w' : World) (h1 : IsS146 w0 w' g s (p : Int) 0 true) (h2 : Below w0.heap.size w0 w') => Number_made g s p w0 w' h1 h2 hs hlen hp)
  obtain ⟨⟨nv, nk, ne⟩, hnum⟩ : ∃ q, num (s.drop p) = q := ⟨_, rfl⟩
  rw [hnum] at HNM
  have HNU := Aside0.mk hnum
  have HW9 := Aside0.mk (show wrap64 ((s.length : Int) - ((s.length - p : Nat) : Int)) = (p : Int) by unfold wrap64; omega)
  by_cases c1 : ne = 0
  rotate_left
  · have HP := Aside0.mk (show withinP s lo hi p 0 = (0, p, ne) by unfold withinP; rw [if_neg (fun h => h rfl), hnum, if_pos c1])
    have HV := Aside0.mk (show numV (nv, nk, ne) = 0 ∧ numA p (nv, nk, ne) = p by unfold numV numA; exact ⟨if_neg c1, if_neg c1⟩)
    have d1 : (ne != (0 : Int)) = true := by simpa using c1
    have d2 : (ne == (0 : Int)) = false := by simpa using c1
    clear hI hB hs hlen hp her c1 hnum
    rw [HV.out.1, HV.out.2] at HNM
    go_enter Try.func80, Try.ntmps80
    go_wp2_with (fail)
    refine HLF.out.mono ?_
    rintro e w1 ⟨rfl, ⟨n0, rfl⟩⟩
    go_wp2_with (fail)
    refine (HNM.out _ (IsS146.drewN HI.out n0) (pw_below_drewN HB.out n0)).mono ?_
    rintro e w2 ⟨rfl, hI2, hB2, hK2⟩
    have HI2 := Aside0.mk hI2
    have HB2 := Aside0.mk hB2
    have HK2 := Aside0.mk hK2
    clear hI2 hB2 hK2
    go_wp2_with (fail)
    refine (Err_made g s p ne w0 _ HI2.out).mono ?_
    rintro e w3 ⟨rfl, ⟨n1, rfl⟩⟩
    go_wp2
    go_ret
    rw [← HR.out, HP.out]
    exact ⟨rfl, IsS146.drewN HI2.out n1, pw_below_drewN HB2.out n1, keep_drewN HK2.out n1⟩
  subst c1
  have HV := Aside0.mk (show numV (nv, nk, 0) = nv ∧ numA p (nv, nk, 0) = p + nk by unfold numV numA; exact ⟨if_pos rfl, if_pos rfl⟩)
  rw [HV.out.1, HV.out.2] at HNM
  obtain ⟨N, hN⟩ : ∃ N : Int, (nv : Int) = N := ⟨_, rfl⟩
  obtain ⟨A, hA⟩ : ∃ A : Int, ((p + nk : Nat) : Int) = A := ⟨_, rfl⟩
  rw [hN, hA] at HNM
  have hN0 : 0 ≤ N := by omega
  have HBAD := Aside0.mk (show (4611686018427387904 < N ∨ N < lo ∨ hi < N) → withinP s lo hi p 0 = (0, p, 5) by
    intro c
    unfold withinP; rw [if_neg (fun h => h rfl), hnum, if_neg (fun h => h rfl), if_pos (by simp only; omega)])
  have HGOOD := Aside0.mk (show ¬ (4611686018427387904 < N ∨ N < lo ∨ hi < N) → withinP s lo hi p 0 = (N, p + nk, 0) by
    intro c
    unfold withinP; rw [if_neg (fun h => h rfl), hnum, if_neg (fun h => h rfl), if_neg (by simp only; omega)]
    simp only [hN])
  have HN0 := Aside0.mk hN0
  have HAA := Aside0.mk hA
  clear hI hB hs hlen hp her hnum hN hA hN0
  by_cases cb : 4611686018427387904 < N ∨ N < lo ∨ hi < N
  · have HP := Aside0.mk (HBAD.out cb)
    have HCB := Aside0.mk cb
    go_enter Try.func80, Try.ntmps80
    go_wp2_with (fail)
    refine HLF.out.mono ?_
    rintro e w1 ⟨rfl, ⟨n0, rfl⟩⟩
    go_wp2_with (fail)
    refine (HNM.out _ (IsS146.drewN HI.out n0) (pw_below_drewN HB.out n0)).mono ?_
    rintro e w2 ⟨rfl, hI2, hB2, hK2⟩
    have HI2 := Aside0.mk hI2
    have HB2 := Aside0.mk hB2
    have HK2 := Aside0.mk hK2
    clear hI2 hB2 hK2
    go_wp2_with (fail)
    refine (Err_made g s A 0 w0 _ HI2.out).mono ?_
    rintro e w3 ⟨rfl, ⟨n1, rfl⟩⟩
    refine with_w (fun w' => IsS146 w0 w' g s A 0 true ∧ Below w0.heap.size w0 w' ∧ KeepBut w w' g none) ⟨IsS146.drewN HI2.out n1, pw_below_drewN HB2.out n1, keep_drewN HK2.out n1⟩ ?_
    rintro w4 ⟨hI4, hB4, hK4⟩
    have HI4 := Aside0.mk hI4
    have HB4 := Aside0.mk hB4
    have HK4 := Aside0.mk hK4
    clear hB4 hK4 HI2 HB2 HK2 HI HB HLF HNM
    obtain ⟨AS, cS, HG, hg, HS⟩ := hI4
    have hc_0 := cellS62_0 HG
    clear HG hg HS
    have HST := Aside0.mk (fun (w' : World) (h1 : IsS146 w0 w' g s A 0 true) (h2 : Below w0.heap.size w0 w') => wire_Reader_stop.calls g s A 0 true (p : Int) 5 (p : Int) 5 true w0 w' h1 h2 rfl)
    by_cases c1 : 4611686018427387904 < N
    · have e1 : decide (N > (4611686018427387904 : Int)) = true := decide_eq_true c1
      have e2 : decide ((4611686018427387904 : Int) < N) = true := decide_eq_true c1
      clear c1 cb
      go_wp2_with (fail)
      rw [HW9.out]
      refine (HST.out _ HI4.out HB4.out).mono ?_
      rintro e w5 ⟨rfl, hI5, hB5, hK5⟩
      have HI5 := Aside0.mk hI5
      have HB5 := Aside0.mk hB5
      have HK5 := Aside0.mk (KeepBut.trans HK4.out hK5 (.inl rfl))
      clear hI5 hB5 hK5
      go_wp2
      go_ret
      rw [← HR.out, HP.out]
      exact ⟨rfl, HI5.out, HB5.out, HK5.out⟩
    · have e1 : decide (N > (4611686018427387904 : Int)) = false := decide_eq_false c1
      have e2 : decide ((4611686018427387904 : Int) < N) = false := decide_eq_false c1
      have hw1 : wrap64 N = N := by have := HN0.out; unfold wrap64; omega
      have hw2 : IntKind.i64.wrap N = N := by have := HN0.out; clear hw1; exact IntWalk.i64_in _ (by omega)
      by_cases c2 : N < lo
      · have e3 : decide (N < lo) = true := decide_eq_true c2
        clear c1 c2 cb
        go_wp2_with (fail)
        rw [HW9.out]
        refine (HST.out _ HI4.out HB4.out).mono ?_
        rintro e w5 ⟨rfl, hI5, hB5, hK5⟩
        have HI5 := Aside0.mk hI5
        have HB5 := Aside0.mk hB5
        have HK5 := Aside0.mk (KeepBut.trans HK4.out hK5 (.inl rfl))
        clear hI5 hB5 hK5
        go_wp2
        go_ret
        rw [← HR.out, HP.out]
        exact ⟨rfl, HI5.out, HB5.out, HK5.out⟩
      · have c3 : hi < N := by omega
        have e3 : decide (N < lo) = false := decide_eq_false c2
        have e4 : decide (N > hi) = true := decide_eq_true c3
        have e5 : decide (hi < N) = true := decide_eq_true c3
        clear c1 c2 c3 cb
        go_wp2_with (fail)
        rw [HW9.out]
        refine (HST.out _ HI4.out HB4.out).mono ?_
        rintro e w5 ⟨rfl, hI5, hB5, hK5⟩
        have HI5 := Aside0.mk hI5
        have HB5 := Aside0.mk hB5
        have HK5 := Aside0.mk (KeepBut.trans HK4.out hK5 (.inl rfl))
        clear hI5 hB5 hK5
        go_wp2
        go_ret
        rw [← HR.out, HP.out]
        exact ⟨rfl, HI5.out, HB5.out, HK5.out⟩
  · have HP := Aside0.mk (HGOOD.out cb)
    have hw1 : wrap64 N = N := by have := HN0.out; unfold wrap64; omega
    have hw2 : IntKind.i64.wrap N = N := by have := HN0.out; clear hw1; exact IntWalk.i64_in _ (by omega)
    have e1 : decide (N > (4611686018427387904 : Int)) = false := decide_eq_false (by omega)
    have e2 : decide ((4611686018427387904 : Int) < N) = false := decide_eq_false (by omega)
    have e3 : decide (N < lo) = false := decide_eq_false (by omega)
    have e4 : decide (N > hi) = false := decide_eq_false (by omega)
    have e5 : decide (hi < N) = false := decide_eq_false (by omega)
    clear cb
    go_enter Try.func80, Try.ntmps80
    go_wp2_with (fail)
    refine HLF.out.mono ?_
    rintro e w1 ⟨rfl, ⟨n0, rfl⟩⟩
    go_wp2_with (fail)
    refine (HNM.out _ (IsS146.drewN HI.out n0) (pw_below_drewN HB.out n0)).mono ?_
    rintro e w2 ⟨rfl, hI2, hB2, hK2⟩
    have HI2 := Aside0.mk hI2
    have HB2 := Aside0.mk hB2
    have HK2 := Aside0.mk hK2
    clear hI2 hB2 hK2
    go_wp2_with (fail)
    refine (Err_made g s A 0 w0 _ HI2.out).mono ?_
    rintro e w3 ⟨rfl, ⟨n1, rfl⟩⟩
    go_wp2
    go_ret
    rw [← HR.out, HP.out]
    refine ⟨rfl, ?_, pw_below_drewN HB2.out n1, keep_drewN HK2.out n1⟩
    simp only
    rw [HAA.out]
    exact IsS146.drewN HI2.out n1
end Go.Proofs.Ytehjbhnlbjbhfaa.Tp
-- TpH
namespace Go.Proofs.Ytehjbhnlbjbhfaa.Tp
open Go Go.RowKit Go.Proofs.YtehjbhnlbjbhfaaW.PrintWords Go.Proofs.YtehjbhnlbjbhfaaW.PrintLast Go.Proofs.YtehjbhnlbjbhfaaW.PrintMore Go.Proofs.Ytehjbhnlbjbhfaa.Wire Go.Proofs.Ytehjbhnlbjbhfaa.Wk Go.Proofs.Ytehjbhnlbjbhfaa.Dk
open Go.Proofs.Ytehjbhnlbjbhfaa.WBase
set_option linter.unusedVariables false
set_option linter.unusedSimpArgs false
def endP (s : List Int) (p : Nat) (er : Int) : Int := if er ≠ 0 then er else if p < s.length then 3 else 0
theorem endP_zero (s : List Int) (p : Nat) (er : Int) : endP s p er = 0 ↔ er = 0 ∧ ¬ p < s.length := by
  unfold endP
  split
  · rename_i h; exact ⟨fun e => absurd e h, fun e => absurd e.1 h⟩
  · rename_i h
    split
    · rename_i h2; exact ⟨fun e => absurd e (by decide), fun e => absurd h2 e.2⟩
    · rename_i h2; exact ⟨fun _ => ⟨Decidable.not_not.1 h, h2⟩, fun _ => rfl⟩
theorem End_calls (g : Nat) (s : List Int) (p : Nat) (er : Int) (w0 w : World) (hI : IsS146 w0 w g s (p : Int) er true) : Calls Try.prog 82 #[.pointer (some ⟨g, 0, none⟩)] w fun e w' => e = .returned (.int .i64 (endP s p er)) ∧ Drawn0 w w' := by
  have HE := Aside0.mk (Err_made g s p er w0 w hI)
  obtain ⟨A, c, HG, hg, HS⟩ := hI
  have hc_0 := cellS62_0 HG
  have hc_1 := cellS62_1 HG
  clear hg HG HS
  by_cases c0 : er = 0
  · subst c0
    by_cases c1 : p < s.length
    · have HP := Aside0.mk (show endP s p 0 = 3 by unfold endP; rw [if_neg (fun h => h rfl), if_pos c1])
      have e1 : decide ((p : Int) < (s.length : Int)) = true := decide_eq_true (by omega)
      have e2 : decide (p < s.length) = true := decide_eq_true c1
      rw [HP.out]
      go_enter Try.func82, Try.ntmps82
      go_wp2_with (fail)
      refine HE.out.mono ?_
      rintro e w1 ⟨rfl, ⟨n0, rfl⟩⟩
      go_wp2
      go_quiet (fail)
      go_wp2
      go_ret
      exact ⟨rfl, Drawn0.step ⟨⟨n0, rfl⟩⟩ nq⟩
    · have HP := Aside0.mk (show endP s p 0 = 0 by unfold endP; rw [if_neg (fun h => h rfl), if_neg c1])
      have e1 : decide ((p : Int) < (s.length : Int)) = false := decide_eq_false (by omega)
      have e2 : decide (p < s.length) = false := decide_eq_false c1
      rw [HP.out]
      go_enter Try.func82, Try.ntmps82
      go_wp2_with (fail)
      refine HE.out.mono ?_
      rintro e w1 ⟨rfl, ⟨n0, rfl⟩⟩
      go_wp2
      go_quiet (fail)
      go_wp2
      go_ret
      exact ⟨rfl, Drawn0.step ⟨⟨n0, rfl⟩⟩ nq⟩
  · have HP := Aside0.mk (show endP s p er = er by unfold endP; rw [if_pos c0])
    have d1 : (er != (0 : Int)) = true := by simpa using c0
    have d2 : (er == (0 : Int)) = false := by simpa using c0
    rw [HP.out]
    clear c0
    go_enter Try.func82, Try.ntmps82
    go_wp2_with (fail)
    refine HE.out.mono ?_
    rintro e w1 ⟨rfl, ⟨n0, rfl⟩⟩
    go_wp2
    go_ret
    exact ⟨rfl, n0, rfl⟩
theorem BytesE_calls (g : Nat) (s : List Int) (p : Nat) (er most : Int) (hmost : -9223372036854775808 ≤ most ∧ most ≤ 9223372036854775807) (w0 w : World) (hI : IsS146 w0 w g s (p : Int) er true) (hB : Below w0.heap.size w0 w) (hs : Bs s) (hlen : s.length < 140737488355328) (hat : p ≤ s.length) :
    Calls Try.prog 81 #[.pointer (some ⟨g, 0, none⟩), .int .i64 most] w fun e w' => ∃ v, e = .returned v ∧ Kd.R (Kd.int .u8) 5 w' w.heap.size (fun k => k ≠ g) v (bytesE s most p er).1 ∧ IsS146 w0 w' g s ((bytesE s most p er).2.1 : Int) (bytesE s most p er).2.2 true ∧ Below w0.heap.size w0 w' ∧ KeepBut w w' g none := by
  by_cases c0 : er = 0
  · subst c0
    have HP := Aside0.mk (show bytesE s most p 0 = bytesP s p most by unfold bytesE; rw [if_neg (fun h => h rfl)])
    rw [HP.out]
    exact Bytes_calls g s p most hmost w0 w hI hB hs hlen hat
  · have HP := Aside0.mk (show bytesE s most p er = ([], p, er) by unfold bytesE; rw [if_pos c0])
    rw [HP.out]
    have HE := Aside0.mk (Err_made g s p er w0 w hI)
    have HI := Aside0.mk hI
    have HB := Aside0.mk hB
    have d1 : (er != (0 : Int)) = true := by simpa using c0
    have d2 : (er == (0 : Int)) = false := by simpa using c0
    clear hI hB hs hlen hat c0
    go_enter Try.func81, Try.ntmps81
    go_wp2_with (fail)
    refine HE.out.mono ?_
    rintro e w1 ⟨rfl, ⟨n0, rfl⟩⟩
    go_wp2
    go_ret
    exact ⟨_, rfl, Kd.R_nil _ _ _ _ _, IsS146.drewN HI.out n0, pw_below_drewN HB.out n0, keep_drewN (KeepBut.refl w g none) n0⟩
end Go.Proofs.Ytehjbhnlbjbhfaa.Tp
-- TpI
namespace Go.Proofs.Ytehjbhnlbjbhfaa.Tp
open Go Go.RowKit Go.Proofs.YtehjbhnlbjbhfaaW.PrintWords Go.Proofs.YtehjbhnlbjbhfaaW.PrintLast Go.Proofs.YtehjbhnlbjbhfaaW.PrintMore Go.Proofs.Ytehjbhnlbjbhfaa.Wire Go.Proofs.Ytehjbhnlbjbhfaa.Wk Go.Proofs.Ytehjbhnlbjbhfaa.Dk
set_option linter.unusedVariables false
theorem allGo_flat {l : List Int} (hb : Bs l) : ∀ (f n : Nat), n ≤ l.length → n ≤ (allGo f l n).2 ∧ (allGo f l n).2 ≤ l.length ∧ (allGo f l n).1.flatMap sealP = (l.drop n).take ((allGo f l n).2 - n) ∧ ∀ d ∈ (allGo f l n).1, Bs d ∧ d.length ≤ 8192 := by
  intro f
  induction f with
  | zero => intro n hn; exact ⟨Nat.le_refl _, hn, by simp [allGo], fun d hd => by simp [allGo] at hd⟩
  | succ f ih =>
    intro n hn
    unfold allGo
    by_cases c : (openP (l.drop n)).2.2 ≠ 0
    · rw [if_pos c]; exact ⟨Nat.le_refl _, hn, by simp, fun d hd => by simp at hd⟩
    · rw [if_neg c]
      obtain ⟨⟨d, k, e⟩, he⟩ : ∃ q, openP (l.drop n) = q := ⟨_, rfl⟩
      rw [he] at c ⊢
      simp only at c ⊢
      obtain rfl : e = 0 := Decidable.not_not.1 c
      obtain ⟨h1, h2, h3⟩ := open_canon (hb.drop n) he
      rw [List.length_drop] at h2
      obtain ⟨g1, g2, g3, g4⟩ := ih (n + k) (by omega)
      refine ⟨by omega, g2, ?_, ?_⟩
      · rw [List.flatMap_cons, g3, h3, ← List.drop_drop]
        have : (allGo f l (n + k)).2 - n = k + ((allGo f l (n + k)).2 - (n + k)) := by omega
        rw [this, List.take_add]
      · intro x hx
        rcases List.mem_cons.1 hx with rfl | hx
        · refine ⟨?_, h1⟩
          intro y hy
          have hy2 : y ∈ sealP x := by unfold sealP recP; simp [hy]
          rw [h3] at hy2
          exact (hb.drop n) y (List.mem_of_mem_take hy2)
        · exact g4 x hx
theorem allP_flat {l : List Int} (hb : Bs l) : (allP l).2 ≤ l.length ∧ (allP l).1.flatMap sealP = l.take (allP l).2 ∧ ∀ d ∈ (allP l).1, Bs d ∧ d.length ≤ 8192 := by
  obtain ⟨_, h2, h3, h4⟩ := allGo_flat hb (l.length + 1) 0 (Nat.zero_le _)
  exact ⟨h2, by simpa [allP] using h3, h4⟩
theorem flat_len (ls : List (List Int)) : ls.length ≤ (ls.flatMap sealP).length := by
  induction ls with
  | nil => simp
  | cons d r ih =>
    rw [List.flatMap_cons, List.length_append, List.length_cons]
    have := seal_len d
    omega
theorem withinP_le {s : List Int} {lo hi er : Int} {p : Nat} (hp : p ≤ s.length) : (withinP s lo hi p er).2.1 ≤ s.length := by
  unfold withinP
  split
  · exact hp
  · split
    · exact hp
    · split
      · exact hp
      · rename_i h _
        have h0 : (num (s.drop p)).2.2 = 0 := Decidable.not_not.1 h
        have := (num_le h0).1
        rw [List.length_drop] at this
        simp only
        omega
theorem withinP_er {s : List Int} {lo hi er : Int} {p : Nat} (h : er ≠ 6) : (withinP s lo hi p er).2.2 ≠ 6 := by
  have := num_err (s.drop p)
  unfold withinP
  split
  · exact h
  · split
    · simp only; omega
    · split
      · simp only; omega
      · simp only; omega
theorem withinP_ok {s : List Int} {lo hi er : Int} {p : Nat} (h : (withinP s lo hi p er).2.2 = 0) : er = 0 ∧ lo ≤ (withinP s lo hi p er).1 ∧ (withinP s lo hi p er).1 ≤ hi := by
  unfold withinP at *
  split at h
  · rename_i c; exact absurd h c
  · rename_i c0
    rw [if_neg c0]
    split at h
    · rename_i c; exact absurd h c
    · rename_i c1
      rw [if_neg c1]
      split at h
      · exact absurd h (by simp)
      · rename_i c2
        rw [if_neg c2]
        simp only
        exact ⟨Decidable.not_not.1 c0, by omega, by omega⟩
theorem bytesE_bs {s : List Int} {most er : Int} {p : Nat} (hs : Bs s) : Bs (bytesE s most p er).1 := by
  unfold bytesE bytesP
  obtain ⟨m, hm⟩ : ∃ m, (if most < 0 then 0 else most) = m := ⟨_, rfl⟩
  rw [hm]
  split
  · exact fun x hx => absurd hx (by simp)
  · split
    · exact fun x hx => absurd hx (by simp)
    · split
      · exact fun x hx => absurd hx (by simp)
      · split
        · exact fun x hx => absurd hx (by simp)
        · exact fun x hx => hs x (List.mem_of_mem_drop (List.mem_of_mem_take hx))
theorem bytesE_ok {s : List Int} {most er : Int} {p : Nat} (hm : 0 ≤ most) (h : (bytesE s most p er).2.2 = 0) : er = 0 ∧ ((bytesE s most p er).1.length : Int) ≤ most := by
  unfold bytesE at *
  split at h
  · rename_i c; exact absurd h c
  · rename_i c0
    rw [if_neg c0]
    refine ⟨Decidable.not_not.1 c0, ?_⟩
    unfold bytesP at *
    rw [if_neg (show ¬ most < 0 by omega)] at *
    split at h
    · rename_i c; exact absurd h c
    · rename_i c1
      rw [if_neg c1]
      split at h
      · exact absurd h (by simp)
      · rename_i c2
        rw [if_neg c2]
        split at h
        · exact absurd h (by simp)
        · rename_i c3
          rw [if_neg c3]
          simp only [List.length_take]
          omega
structure ROk (r : Reel) (n : Nat) : Prop where
  gen : 0 ≤ r.gen ∧ r.gen ≤ 1099511627776
  bb : Bs r.base
  base : r.base.length ≤ 8176
  bl : ∀ d ∈ r.l, Bs d ∧ d.length ≤ 8192
  all : (r.l.flatMap sealP).length ≤ n
theorem noReel_ok (n : Nat) : ROk noReel n := ⟨by decide, fun x hx => absurd hx (by simp [noReel]), by decide, fun d hd => absurd hd (by simp [noReel]), Nat.zero_le _⟩
theorem readT_ok {b : List Int} (hb : Bs b) : ROk (readT b).1 b.length := by
  obtain ⟨h1, h2, h3⟩ := allP_flat hb
  unfold readT
  split
  · exact noReel_ok _
  · rename_i s rest he
    split
    · exact noReel_ok _
    · rename_i r hr
      unfold headR at hr
      simp only at hr
      split at hr
      · cases hr
      · rename_i hc
        injection hr with hr
        subst hr
        rw [he] at h2 h3
        have hc1 : (bytesE s 8176 (withinP s 0 1099511627776 (withinP s 1 1099511627776 0 0).2.1 (withinP s 1 1099511627776 0 0).2.2).2.1 (withinP s 0 1099511627776 (withinP s 1 1099511627776 0 0).2.1 (withinP s 1 1099511627776 0 0).2.2).2.2).2.2 = 0 := by
          apply Decidable.not_not.1
          intro h; exact hc (.inl h)
        obtain ⟨e1, e2⟩ := bytesE_ok (by decide) hc1
        obtain ⟨e3, _, _⟩ := withinP_ok e1
        obtain ⟨_, e4, e5⟩ := withinP_ok e3
        refine ⟨⟨by simp only; omega, by simp only; omega⟩, bytesE_bs (h3 s (List.mem_cons_self ..)).1, by simp only; omega, fun d hd => h3 d (List.mem_cons_of_mem _ hd), ?_⟩
        have := congrArg List.length h2
        rw [List.flatMap_cons, List.length_append, List.length_take] at this
        simp only
        omega
end Go.Proofs.Ytehjbhnlbjbhfaa.Tp
-- TpJ
namespace Go.Proofs.Ytehjbhnlbjbhfaa.Tp
open Go Go.RowKit Go.Proofs.YtehjbhnlbjbhfaaW.PrintWords Go.Proofs.YtehjbhnlbjbhfaaW.PrintLast Go.Proofs.YtehjbhnlbjbhfaaW.PrintMore Go.Proofs.Ytehjbhnlbjbhfaa.Wire Go.Proofs.Ytehjbhnlbjbhfaa.Wk Go.Proofs.Ytehjbhnlbjbhfaa.Dk
open Go.Proofs.Ytehjbhnlbjbhfaa.WBase
set_option linter.unusedVariables false
set_option linter.unusedSimpArgs false
theorem with_wC {f : FuncId} {args : Array Value} {Q : Ending → World → Prop} (S : World → Prop) {W : World} (h : S W) (k : ∀ w', S w' → Calls Try.prog f args w' Q) : Calls Try.prog f args W Q := k W h
abbrev zReel : Obj := .cells #[.int .i64 0, .slice none 0 0, .slice none 0 0] 48
set_option maxHeartbeats 8000000 in
set_option maxRecDepth 100000 in
theorem read_calls (A0 : Option Addr) (c0 : Nat) (b : List Int) (w : World) (hr0 : Kd.C (Kd.int .u8) w A0 b.length b) (hc0 : b.length ≤ c0) (hs : Bs b) (hlen : b.length < 1000000000) :
    Calls Try.prog 63 #[.slice A0 b.length c0] w fun e w' => ∃ bV lV, e = .returned (.tuple #[.agg #[.int .i64 (readT b).1.gen, bV, lV], .bool (readT b).2]) ∧ Kd.V (Kd.int .u8) 0 w' 0 (fun k => w.heap.size ≤ k) bV (readT b).1.base ∧ Kd.V KdB 0 w' 0 (fun k => w.heap.size ≤ k) lV (readT b).1.l ∧ Below w.heap.size w w' := by
  have HR0 := Aside0.mk (Kd.C_alloc hr0 zReel)
  have HC0 := Aside0.mk hc0
  have HS := Aside0.mk hs
  have HLEN := Aside0.mk hlen
  have HN2 := Aside0.mk (blk_new w zReel)
  have HW1 := Aside0.mk (below_alloc (Below.refl w.heap.size w) zReel)
  have hz1 : (w.alloc zReel).heap.size = w.heap.size + 1 := by simp
  have HZ1 := Aside0.mk hz1
  obtain ⟨r, hr⟩ : ∃ r, readT b = r := ⟨_, rfl⟩
  rw [hr]
  have HR := Aside0.mk hr
  obtain ⟨ls, hls⟩ : ∃ ls, (allP b).1 = ls := ⟨_, rfl⟩
  obtain ⟨n, hn⟩ : ∃ n, (allP b).2 = n := ⟨_, rfl⟩
  have HLS := Aside0.mk hls
  have HN := Aside0.mk hn
  have HFL := Aside0.mk (allP_flat hs)
  clear hr0 hc0 hs hlen hr hz1 hls hn
  obtain ⟨b2, hb2⟩ : ∃ b2, w.heap.size = b2 := ⟨_, rfl⟩
  have HB2 := Aside0.mk hb2
  go_enter Try.func63, Try.ntmps63
  go_wp2_with (fail)
  refine (All_calls A0 c0 b _ HR0.out HC0.out HS.out HLEN.out).mono ?_
  rw [HLS.out, HN.out]
  rintro e w1 ⟨v, rfl, hR1, hB1⟩
  obtain ⟨Av, cv, rfl⟩ := Kd.R_slice hR1
  have HR1 := Aside0.mk (show Kd.R KdB 32 w1 (b2 + 1) (fun _ => True) (.slice Av ls.length cv) ls by have := hR1; rw [HZ1.out, hb2] at this; exact this)
  have HK1 := Aside0.mk (show w1.heap[b2]? = some zReel by rw [← hb2]; exact blk_below HN2.out hB1)
  have HB1 := Aside0.mk (below_step HW1.out hB1)
  clear hR1 hB1 HN2 HW1 HZ1 HR0
  cases ls with
  | nil =>
    have HP := Aside0.mk (show readT b = (noReel, decide (0 < b.length)) by unfold readT; rw [HLS.out])
    obtain ⟨more, hm⟩ : ∃ m : Bool, decide (0 < b.length) = m := ⟨_, rfl⟩
    have hm1 : decide ((b.length : Int) > 0) = more := by rw [← hm]; simp
    have hm2 : decide ((0 : Int) < (b.length : Int)) = more := by rw [← hm]; simp
    have hc0 := (blk_cell HK1.out 0).trans (show _ = some (Value.int .i64 0) from rfl)
    have hc1 := (blk_cell HK1.out 1).trans (show _ = some (Value.slice none 0 0) from rfl)
    have hc2 := (blk_cell HK1.out 2).trans (show _ = some (Value.slice none 0 0) from rfl)
    have hf0 := blk_frozen HK1.out 0
    have hf1 := blk_frozen HK1.out 1
    have hf2 := blk_frozen HK1.out 2
    clear hb2
    go_wp2
    have k1 := blk_put (cs' := #[.int .i64 0, .slice none 0 0, .slice none 0 0]) HK1.out 0 (.int .i64 0) rfl
    have k2 := blk_put (cs' := #[.int .i64 0, .slice none 0 0, .slice none 0 0]) k1 1 (.slice none 0 0) rfl
    have k3 := blk_put (cs' := #[.int .i64 0, .slice none 0 0, .slice none 0 0]) k2 2 (.slice none 0 0) rfl
    refine bodyPost_ret (results_ct rfl _ _ b2 48 #[.int .i64 0, .slice none 0 0, .slice none 0 0] (0, 0) _ (by rfl) k3 Try.underlying48 rfl (by kernel_rfl)) rfl ?_
    rw [← HR.out, HP.out]
    have hle := HB2.out
    refine ⟨.slice none 0 0, .slice none 0 0, by rw [hm]; rfl, Kd.V_nil _ _ _ _ _, Kd.V_nil _ _ _ _ _, ((HB1.out.setCell (p := ⟨b2, 0, none⟩) (by show w.heap.size ≤ b2; omega) _).setCell (p := ⟨b2, 1, none⟩) (by show w.heap.size ≤ b2; omega) _).setCell (p := ⟨b2, 2, none⟩) (by show w.heap.size ≤ b2; omega) _⟩
  | cons s rest =>
    have hsl := HFL.out
    rw [HLS.out] at hsl
    have hSB := (hsl.2.2 s (List.mem_cons_self ..))
    have HSB := Aside0.mk hSB.1
    have HSL := Aside0.mk (show s.length < 140737488355328 by have := hSB.2; omega)
    have HRL := Aside0.mk (show rest.length < 1000000000 by
      have h1 := flat_len (s :: rest)
      rw [hsl.2.1, List.length_take, List.length_cons] at h1
      have := HLEN.out
      omega)
    obtain ⟨ad, A2, c2, e0, hc2, hC2, hx⟩ := bb_get (Kd.R_reads' HR1.out).2.2 0 (by simp)
    subst e0
    have hC2' : Kd.C (Kd.int .u8) w1 A2 s.length s := hC2
    have hc2' : s.length ≤ c2 := hc2
    have hadd : ad.add 0 = ad := by cases ad; simp [Addr.add]
    have hx' : w1.cell? (ad.add 0) = some (.slice A2 s.length c2) := hx
    rw [hadd] at hx'
    have HC2 := Aside0.mk (And.intro hc2' hC2')
    obtain ⟨LN, hLN⟩ : ∃ LN : Nat, (s :: rest).length = LN := ⟨_, rfl⟩
    have hLN1 : LN = rest.length + 1 := by rw [← hLN]; rfl
    have HLN := Aside0.mk hLN1
    have HRV := Aside0.mk (show Kd.V KdB 0 w1 0 (fun k => b2 + 1 ≤ k ∧ k < w1.heap.size) (.slice (some ad) LN cv) (s :: rest) by
      rw [← hLN]
      exact (show Kd.V KdB 32 w1 0 (fun k => b2 + 1 ≤ k ∧ k < w1.heap.size) (.slice (some ad) (s :: rest).length cv) (s :: rest) from Kd.R_V (Kd.R_mono (Kd.R_bound HR1.out) (fun k hk => ⟨hk.2.1, hk.2.2.1⟩))))
    rw [hLN]
    have e1 : ((LN : Int) == (0 : Int)) = false := by simp; omega
    have hi1 : (0 : Int) < (LN : Int) := by omega
    clear hsl hSB hC2 hc2 hx hC2' hc2' hb2 hadd hLN HR1 hLN1
    go_wp2_with (fail)
    refine (Read_calls A2 c2 s _ HC2.out.2 HC2.out.1 HSL.out).mono ?_
    rintro e w2 ⟨wr, g, rfl, hI, hBa, hBb⟩
    have HI2 := Aside0.mk (show IsS146 wr w2 g s ((0 : Nat) : Int) 0 true from hI)
    have HBr := Aside0.mk hBb
    have HG1 := Aside0.mk (show w1.heap.size ≤ g by have := IsS146.ge hI; have := hBa.size; omega)
    have hB2 := below_step (below_step HB1.out hBa) hBb
    have HB2' := Aside0.mk hB2
    have HK2 := Aside0.mk (blk_below (blk_below HK1.out hBa) hBb)
    have HV2 := Aside0.mk (Kd.V_below (Kd.V_below HRV.out hBa) hBb)
    have HG2 := Aside0.mk (show b2 < w1.heap.size from blk_lt HK1.out)
    clear hI hBa hBb hB2 hx' HC2 HRV HB1 HK1
    go_wp2_with (fail)
    refine (Within_calls g s 0 0 1 1099511627776 wr _ HI2.out HBr.out HSB.out HSL.out (Nat.zero_le _) (by decide)).mono ?_
    obtain ⟨g1, p1, er1, hw1⟩ : ∃ g1 p1 er1, withinP s 1 1099511627776 0 0 = (g1, p1, er1) := ⟨_, _, _, rfl⟩
    have HQ1 := Aside0.mk hw1
    have HP1 := Aside0.mk (show p1 ≤ s.length by have := withinP_le (s := s) (lo := 1) (hi := 1099511627776) (er := 0) (Nat.zero_le s.length); rw [hw1] at this; exact this)
    have HE1 := Aside0.mk (show er1 ≠ 6 by have := withinP_er (s := s) (lo := 1) (hi := 1099511627776) (p := 0) (er := 0) (by decide); rw [hw1] at this; exact this)
    rw [hw1]
    clear hw1
    rintro e w3 ⟨rfl, hI, hB, hK⟩
    have HKP := Aside0.mk (fun (i : Nat) (hi : i < w1.heap.size) => hK.2 i (by have h1 := HG1.out; have h2 := IsS146.lt HI2.out; omega) (fun e => by have := HG1.out; omega) (by simp))
    have HI3 := Aside0.mk hI
    have HB3 := Aside0.mk hB
    have HK3 := Aside0.mk ((HKP.out b2 HG2.out).trans HK2.out)
    have HV3 := Aside0.mk (Kd.V_step HV2.out (fun k hk _ => HKP.out k hk.2))
    have HB3' := Aside0.mk (show Below w.heap.size w w3 from ⟨hB.os.trans (HBr.out.os.symm.trans HB2'.out.os), hB.tape.trans (HBr.out.tape.symm.trans HB2'.out.tape), hB.output.trans (HBr.out.output.symm.trans HB2'.out.output), Nat.le_trans HB2'.out.size hK.1, fun i hi => (HKP.out i (by have := HG2.out; have := HB2.out; omega)).trans (HB2'.out.block i hi)⟩)
    clear hI hB hK HKP HI2 HBr HB2' HK2 HV2
    obtain ⟨b7, hb7⟩ : ∃ b7, w3.heap.size = b7 := ⟨_, rfl⟩
    have HB7 := Aside0.mk hb7
    have hn8 := blk_new w3 (.cells #[.int .i64 g1, .slice none 0 0, .slice none 0 0] 48)
    rw [hb7] at hn8
    have HN8 := Aside0.mk hn8
    have HB34 := Aside0.mk (below_alloc (Below.refl w3.heap.size w3) (.cells #[.int .i64 g1, .slice none 0 0, .slice none 0 0] 48))
    clear hn8
    go_wp2_with (fail)
    refine with_wC (fun w' => w'.heap[b7]? = some (.cells #[.int .i64 g1, .slice none 0 0, .slice none 0 0] 48 (0, 0)) ∧ Below w3.heap.size w3 w') ⟨HN8.out, HB34.out⟩ ?_
    clear HN8 HB34
    rintro w4 ⟨hk7, hb4⟩
    have HK7 := Aside0.mk hk7
    have HI4 := Aside0.mk (IsS146.below HI3.out hb4)
    have HB4 := Aside0.mk (below_step HB3.out hb4)
    have HK4 := Aside0.mk (blk_below HK3.out hb4)
    have HV4 := Aside0.mk (Kd.V_below HV3.out hb4)
    have HB4' := Aside0.mk (below_step HB3'.out hb4)
    have HG7 := Aside0.mk (show g < b7 by have := IsS146.lt HI3.out; omega)
    clear hk7 hb4 HI3 HB3 HK3 HV3 HB3' hb7 HB7
    refine (Within_calls g s p1 er1 0 1099511627776 wr _ HI4.out HB4.out HSB.out HSL.out HP1.out HE1.out).mono ?_
    obtain ⟨many, p2, er2, hw2⟩ : ∃ many p2 er2, withinP s 0 1099511627776 p1 er1 = (many, p2, er2) := ⟨_, _, _, rfl⟩
    have HQ2 := Aside0.mk hw2
    have HP2 := Aside0.mk (show p2 ≤ s.length by have := withinP_le (s := s) (lo := 0) (hi := 1099511627776) (er := er1) HP1.out; rw [hw2] at this; exact this)
    rw [hw2]
    clear hw2
    rintro e w5 ⟨rfl, hI, hB, hK⟩
    have HKP := Aside0.mk (fun (i : Nat) (hi : i < w4.heap.size) (hn : i ≠ g) => hK.2 i hi hn (by simp))
    have HI5 := Aside0.mk hI
    have HB5 := Aside0.mk hB
    have HK75 := Aside0.mk ((HKP.out b7 (blk_lt HK7.out) (by have := HG7.out; omega)).trans HK7.out)
    have HK5 := Aside0.mk ((HKP.out b2 (blk_lt HK4.out) (by have := HG2.out; have := HG1.out; omega)).trans HK4.out)
    have HV5 := Aside0.mk (Kd.V_step HV4.out (fun k hk hlt => HKP.out k hlt (by have := HG1.out; omega)))
    have HB5' := Aside0.mk (show Below w.heap.size w w5 from ⟨hB.os.trans (HB4.out.os.symm.trans HB4'.out.os), hB.tape.trans (HB4.out.tape.symm.trans HB4'.out.tape), hB.output.trans (HB4.out.output.symm.trans HB4'.out.output), Nat.le_trans HB4'.out.size hK.1, fun i hi => (HKP.out i (Nat.lt_of_lt_of_le hi HB4'.out.size) (by have := HG2.out; have := HG1.out; have := HB2.out; omega)).trans (HB4'.out.block i hi)⟩)
    clear hI hB hK HKP HI4 HB4 HB4' HK4 HV4 HK7
    go_wp2_with (fail)
    refine (BytesE_calls g s p2 er2 8176 (by decide) wr _ HI5.out HB5.out HSB.out HSL.out HP2.out).mono ?_
    obtain ⟨bs, p3, er3, hw3⟩ : ∃ bs p3 er3, bytesE s 8176 p2 er2 = (bs, p3, er3) := ⟨_, _, _, rfl⟩
    have HQ3 := Aside0.mk hw3
    rw [hw3]
    clear hw3
    rintro e w6 ⟨vb, rfl, hRb, hI, hB, hK⟩
    obtain ⟨Ab, cb, rfl⟩ := Kd.R_slice hRb
    have HKP := Aside0.mk (fun (i : Nat) (hi : i < w5.heap.size) (hn : i ≠ g) => hK.2 i hi hn (by simp))
    have HI6 := Aside0.mk hI
    have HB6 := Aside0.mk hB
    have HK76 := Aside0.mk ((HKP.out b7 (blk_lt HK75.out) (by have := HG7.out; omega)).trans HK75.out)
    have HK6 := Aside0.mk ((HKP.out b2 (blk_lt HK5.out) (by have := HG2.out; have := HG1.out; omega)).trans HK5.out)
    have HV6 := Aside0.mk (Kd.V_step HV5.out (fun k hk hlt => HKP.out k hlt (by have := HG1.out; omega)))
    have HB6' := Aside0.mk (show Below w.heap.size w w6 from ⟨hB.os.trans (HB5.out.os.symm.trans HB5'.out.os), hB.tape.trans (HB5.out.tape.symm.trans HB5'.out.tape), hB.output.trans (HB5.out.output.symm.trans HB5'.out.output), Nat.le_trans HB5'.out.size hK.1, fun i hi => (HKP.out i (Nat.lt_of_lt_of_le hi HB5'.out.size) (by have := HG2.out; have := HG1.out; have := HB2.out; omega)).trans (HB5'.out.block i hi)⟩)
    have HVB := Aside0.mk (show Kd.V (Kd.int .u8) 5 w6 0 (fun k => b7 + 1 ≤ k) (.slice Ab bs.length cb) bs from Kd.R_V (Kd.R_mono (Kd.R_bound hRb) (fun k hk => by have := hk.2.1; have := blk_lt HK75.out; omega)))
    have h71 := (blk_cell HK76.out 1).trans (show _ = some (Value.slice none 0 0) from rfl)
    have hf71 := blk_frozen HK76.out 1
    clear hRb hI hB hK HKP HI5 HB5 HB5' HK5 HV5 HK75
    go_wp2_with (fail)
    have HLE := Aside0.mk (show w.heap.size ≤ b7 by have := HG7.out; have := HG1.out; have := HG2.out; have := HB2.out; omega)
    refine with_wC (fun w' => w'.heap[b7]? = some (.cells #[.int .i64 g1, .slice Ab bs.length cb, .slice none 0 0] 48 (0, 0)) ∧ IsS146 wr w' g s (p3 : Int) er3 true ∧ w'.heap[b2]? = some zReel ∧ Kd.V KdB 0 w' 0 (fun k => b2 + 1 ≤ k ∧ k < w1.heap.size) (.slice (some ad) LN cv) (s :: rest) ∧ Kd.V (Kd.int .u8) 5 w' 0 (fun k => b7 + 1 ≤ k) (.slice Ab bs.length cb) bs ∧ Below w.heap.size w w') ⟨blk_put HK76.out 1 _ rfl, IsS146.far HI6.out (by show g ≠ b7; have := HG7.out; omega) _, blk_far HK6.out (by show b2 ≠ b7; have := HG7.out; have := HG1.out; have := HG2.out; omega) _, Kd.V_far HV6.out (fun k hk => by show k ≠ b7; have := HG7.out; have := HG1.out; have := hk.2; omega) _, Kd.V_far HVB.out (fun k hk => by show k ≠ b7; omega) _, HB6'.out.setCell (p := ⟨b7, 1, none⟩) HLE.out _⟩ ?_
    clear h71 hf71 HK76 HI6 HB6 HK6 HV6 HVB HB6'
    rintro w7 ⟨hk7, hi7, hk2, hv7, hvb, hb7⟩
    have HK7 := Aside0.mk hk7
    have HK2 := Aside0.mk hk2
    have HV7 := Aside0.mk hv7
    have HVB := Aside0.mk hvb
    have HB7 := Aside0.mk hb7
    have HEN := Aside0.mk (End_calls g s p3 er3 wr w7 hi7)
    have HBAD := Aside0.mk (show (er3 ≠ 0 ∨ p3 < s.length ∨ (rest.length : Int) < many) → readT b = (noReel, true) by
      intro c
      unfold readT
      rw [HLS.out]
      have : headR s rest = none := by
        unfold headR
        simp only [HQ1.out, HQ2.out, HQ3.out]
        exact if_pos c
      simp only [this])
    have HGOOD := Aside0.mk (show ¬ (er3 ≠ 0 ∨ p3 < s.length ∨ (rest.length : Int) < many) → readT b = (⟨g1, bs, rest⟩, decide (n < b.length)) by
      intro c
      unfold readT
      rw [HLS.out]
      have : headR s rest = some ⟨g1, bs, rest⟩ := by
        unfold headR
        simp only [HQ1.out, HQ2.out, HQ3.out]
        exact if_neg c
      simp only [this, HN.out])
    have hw1 : wrap64 ((LN : Int) - 1) = (rest.length : Int) := by have := HLN.out; have := HRL.out; unfold wrap64; omega
    have hw2 : IntKind.i64.wrap ((LN : Int) - 1) = (rest.length : Int) := by have := HLN.out; have := HRL.out; clear hw1; exact (IntWalk.i64_in _ (by omega)).trans (by omega)
    have hc0 := (blk_cell hk2 0).trans (show _ = some (Value.int .i64 0) from rfl)
    have hc1 := (blk_cell hk2 1).trans (show _ = some (Value.slice none 0 0) from rfl)
    have hc2 := (blk_cell hk2 2).trans (show _ = some (Value.slice none 0 0) from rfl)
    have hf0 := blk_frozen hk2 0
    have hf1 := blk_frozen hk2 1
    have hf2 := blk_frozen hk2 2
    have ends : (er3 ≠ 0 ∨ p3 < s.length) ↔ endP s p3 er3 ≠ 0 := by
      rw [Ne, Ne, endP_zero]
      omega
    have HENDS := Aside0.mk ends
    clear hk7 hi7 hk2 hv7 hvb hb7 ends
    have FB := Aside0.mk (fun (n0 : Nat) => blk_put (cs' := #[.int .i64 0, .slice none 0 0, .slice none 0 0]) (blk_put (cs' := #[.int .i64 0, .slice none 0 0, .slice none 0 0]) (blk_put (cs' := #[.int .i64 0, .slice none 0 0, .slice none 0 0]) (blk_drewN HK2.out n0) 0 (.int .i64 0) rfl) 1 (.slice none 0 0) rfl) 2 (.slice none 0 0) rfl)
    have FW := Aside0.mk (fun (n0 : Nat) (u0 u1 u2 : Value) => (((pw_below_drewN HB7.out n0).setCell (p := ⟨b2, 0, none⟩) (by show w.heap.size ≤ b2; have := HB2.out; omega) u0).setCell (p := ⟨b2, 1, none⟩) (by show w.heap.size ≤ b2; have := HB2.out; omega) u1).setCell (p := ⟨b2, 2, none⟩) (by show w.heap.size ≤ b2; have := HB2.out; omega) u2)
    by_cases ce : endP s p3 er3 = 0
    rotate_left
    · have HP := Aside0.mk (HBAD.out ((HENDS.out.2 ce).elim .inl (fun h => .inr (.inl h))))
      have d1 : (endP s p3 er3 != (0 : Int)) = true := by simpa using ce
      have d2 : (endP s p3 er3 == (0 : Int)) = false := by simpa using ce
      clear ce hw1 hw2
      generalize endP s p3 er3 = ee at *
      refine HEN.out.mono ?_
      rintro e w8 ⟨rfl, ⟨n0, rfl⟩⟩
      go_wp2
      refine bodyPost_ret (results_ct rfl _ _ b2 48 #[.int .i64 0, .slice none 0 0, .slice none 0 0] (0, 0) _ (by rfl) (FB.out n0) Try.underlying48 rfl (by kernel_rfl)) rfl ?_
      rw [← HR.out, HP.out]
      exact ⟨.slice none 0 0, .slice none 0 0, rfl, Kd.V_nil _ _ _ _ _, Kd.V_nil _ _ _ _ _, FW.out n0 _ _ _⟩
    have HENG := Aside0.mk (show Calls Try.prog 82 #[.pointer (some ⟨g, 0, none⟩)] w7 (fun e w' => e = .returned (.int .i64 0) ∧ Drawn0 w7 w') by have := HEN.out; rw [ce] at this; exact this)
    have HCE := Aside0.mk ce
    clear HEN ce
    by_cases cm : (rest.length : Int) < many
    · have HP := Aside0.mk (HBAD.out (.inr (.inr cm)))
      have d1 : decide ((rest.length : Int) < many) = true := decide_eq_true cm
      clear cm
      refine HENG.out.mono ?_
      rintro e w8 ⟨rfl, ⟨n0, rfl⟩⟩
      go_wp2
      refine bodyPost_ret (results_ct rfl _ _ b2 48 #[.int .i64 0, .slice none 0 0, .slice none 0 0] (0, 0) _ (by rfl) (FB.out n0) Try.underlying48 rfl (by kernel_rfl)) rfl ?_
      rw [← HR.out, HP.out]
      exact ⟨.slice none 0 0, .slice none 0 0, rfl, Kd.V_nil _ _ _ _ _, Kd.V_nil _ _ _ _ _, FW.out n0 _ _ _⟩
    · have HP := Aside0.mk (HGOOD.out (fun c => by
        rcases c with c | c | c
        · exact (HENDS.out.1 (.inl c)) HCE.out
        · exact (HENDS.out.1 (.inr c)) HCE.out
        · exact cm c))
      have d1 : decide ((rest.length : Int) < many) = false := decide_eq_false cm
      clear cm
      obtain ⟨more, hm⟩ : ∃ m : Bool, decide (n < b.length) = m := ⟨_, rfl⟩
      have hm1 : decide ((n : Int) < (b.length : Int)) = more := by rw [← hm]; simp
      obtain ⟨i0, hi0, _, hz1, _⟩ := info_parts Wk.info32
      have HCUT := cut_from (P := Try.prog) 46 32 .i64 Try.underlying46 hi0 1 hz1 (some ad) LN cv (1 : Int) (by decide) (by have := HLN.out; omega)
      rw [show (1 : Int).toNat = 1 from rfl, show LN - 1 = rest.length by have := HLN.out; omega] at HCUT
      have HVR := Aside0.mk (show Kd.V KdB 0 w7 0 (fun k => b2 + 1 ≤ k ∧ k < w1.heap.size) (.slice (if cv = 1 then some ad else (some ad).map (·.add (1 * 1))) rest.length (cv - 1)) rest by
        obtain ⟨hl0, hle, hF⟩ := Kd.V_at HV7.out
        have hF2 := Kd.F_cut (m := 1) (c := cv) (by rw [← hl0]; exact hl0 ▸ hF) (by simp) (by rw [← hl0]; exact hle)
        exact Kd.V_mk (by have := HLN.out; omega) hF2)
      generalize (if cv = 1 then some ad else (some ad).map (·.add (1 * 1))) = AR at HCUT HVR
      have h70 := (blk_cell HK7.out 0).trans (show _ = some (Value.int .i64 g1) from rfl)
      have h71 := (blk_cell HK7.out 1).trans (show _ = some (Value.slice Ab bs.length cb) from rfl)
      have h72 := (blk_cell HK7.out 2).trans (show _ = some (Value.slice none 0 0) from rfl)
      have hf72 := blk_frozen HK7.out 2
      have hne : b2 ≠ b7 := by have := HG7.out; have := HG1.out; have := HG2.out; omega
      have HNE := Aside0.mk hne
      clear hi0 hz1
      refine HENG.out.mono ?_
      rintro e w8 ⟨rfl, ⟨n0, rfl⟩⟩
      go_wp2
      have q := blk_far (blk_drewN HK2.out n0) (p := ⟨b7, 2, none⟩) HNE.out (.slice AR rest.length (cv - 1))
      have q0 := blk_put (cs' := #[.int .i64 g1, .slice none 0 0, .slice none 0 0]) q 0 (.int .i64 g1) rfl
      have q1 := blk_put (cs' := #[.int .i64 g1, .slice Ab bs.length cb, .slice none 0 0]) q0 1 (.slice Ab bs.length cb) rfl
      have q2 := blk_put (cs' := #[.int .i64 g1, .slice Ab bs.length cb, .slice AR rest.length (cv - 1)]) q1 2 (.slice AR rest.length (cv - 1)) rfl
      refine bodyPost_ret (results_ct rfl _ _ b2 48 #[.int .i64 g1, .slice Ab bs.length cb, .slice AR rest.length (cv - 1)] (0, 0) _ (by rfl) q2 Try.underlying48 rfl (by kernel_rfl)) rfl ?_
      rw [← HR.out, HP.out]
      have hle := HB2.out
      have hn2 : ∀ k, b2 + 1 ≤ k ∧ k < w1.heap.size → k ≠ b7 := fun k hk => by have := HG7.out; have := HG1.out; omega
      have hn3 : ∀ k, b2 + 1 ≤ k ∧ k < w1.heap.size → k ≠ b2 := fun k hk => by omega
      have hn4 : ∀ k, b7 + 1 ≤ k → k ≠ b7 := fun k hk => by omega
      have hn5 : ∀ k, b7 + 1 ≤ k → k ≠ b2 := fun k hk => by have := HG7.out; have := HG1.out; have := HG2.out; omega
      refine ⟨.slice Ab bs.length cb, .slice AR rest.length (cv - 1), by rw [hm]; rfl, ?_, ?_, ?_⟩
      · exact Kd.V_mono (Kd.V_far (Kd.V_far (Kd.V_far (Kd.V_far (Kd.V_drewN HVB.out n0) (p := ⟨b7, 2, none⟩) hn4 _) (p := ⟨b2, 0, none⟩) hn5 _) (p := ⟨b2, 1, none⟩) hn5 _) (p := ⟨b2, 2, none⟩) hn5 _) (fun k hk => by have := HLE.out; omega)
      · exact Kd.V_mono (Kd.V_far (Kd.V_far (Kd.V_far (Kd.V_far (Kd.V_drewN HVR.out n0) (p := ⟨b7, 2, none⟩) hn2 _) (p := ⟨b2, 0, none⟩) hn3 _) (p := ⟨b2, 1, none⟩) hn3 _) (p := ⟨b2, 2, none⟩) hn3 _) (fun k hk => by omega)
      · exact ((((pw_below_drewN HB7.out n0).setCell (p := ⟨b7, 2, none⟩) HLE.out _).setCell (p := ⟨b2, 0, none⟩) (by show w.heap.size ≤ b2; omega) _).setCell (p := ⟨b2, 1, none⟩) (by show w.heap.size ≤ b2; omega) _).setCell (p := ⟨b2, 2, none⟩) (by show w.heap.size ≤ b2; omega) _
end Go.Proofs.Ytehjbhnlbjbhfaa.Tp
-- TpK
namespace Go.Proofs.Ytehjbhnlbjbhfaa.Tp
open Go Go.RowKit Go.Proofs.YtehjbhnlbjbhfaaW.PrintWords Go.Proofs.YtehjbhnlbjbhfaaW.PrintLast Go.Proofs.YtehjbhnlbjbhfaaW.PrintMore Go.Proofs.Ytehjbhnlbjbhfaa.Wire Go.Proofs.Ytehjbhnlbjbhfaa.Wk Go.Proofs.Ytehjbhnlbjbhfaa.Dk
set_option linter.unusedVariables false
set_option linter.unusedSimpArgs false
def BsD (s : DS) : Prop := ∀ f ∈ s.fs, Bs f.seen ∧ Bs f.lasts
theorem BsD.fl {s : DS} (h : BsD s) (i : Nat) : Bs (fl s i).seen ∧ Bs (fl s i).lasts := by
  unfold Dk.fl
  rw [List.getD_eq_getElem?_getD]
  cases e : s.fs[i]? with
  | none => exact ⟨fun x hx => absurd hx (by simp [nf]), fun x hx => absurd hx (by simp [nf])⟩
  | some f => exact h f (List.mem_of_getElem? e)
def pk (s : DS) : Nat → TS × Bool
  | 0 => (⟨noReel, 1, 0⟩, false)
  | f + 1 => pick s f (pk s f)
theorem pk_two (s : DS) : pk s 2 = picked s := rfl
theorem pk_ok {s : DS} (hb : BsD s) (hok : Ok s) : ∀ f, (pk s f).1.file ≤ 1 ∨ 2 ≤ f ∧ (pk s f).1.file < f := by
  intro f
  induction f with
  | zero => exact .inl (Nat.le_refl _)
  | succ f ih =>
    show (pick s f (pk s f)).1.file ≤ 1 ∨ _
    unfold pick
    simp only
    show (if (pk s f).1.r.gen < (readT (Dk.fl s f).seen).1.gen then _ else pk s f).1.file ≤ 1 ∨ 2 ≤ f + 1 ∧ (pick s f (pk s f)).1.file < f + 1
    have hp : (pick s f (pk s f)) = if (pk s f).1.r.gen < (readT (Dk.fl s f).seen).1.gen then (⟨(readT (Dk.fl s f).seen).1, f, 0⟩, (readT (Dk.fl s f).seen).2) else pk s f := rfl
    rw [hp]
    split
    · simp only
      by_cases c : f ≤ 1
      · exact .inl c
      · exact .inr ⟨by omega, by omega⟩
    · rcases ih with h | h
      · exact .inl h
      · exact .inr ⟨by omega, by omega⟩
theorem pk_rok {s : DS} (hb : BsD s) (hok : Ok s) : ∀ f, f ≤ 8 → ROk (pk s f).1.r 4194304 ∧ (pk s f).1.kept = 0 := by
  intro f
  induction f with
  | zero => exact fun _ => ⟨noReel_ok _, rfl⟩
  | succ f ih =>
    intro hf
    have hp : pk s (f + 1) = if (pk s f).1.r.gen < (readT (Dk.fl s f).seen).1.gen then (⟨(readT (Dk.fl s f).seen).1, f, 0⟩, (readT (Dk.fl s f).seen).2) else pk s f := rfl
    rw [hp]
    split
    · have h := readT_ok (hb.fl f).1
      have := hok.seen_le (i := f) (by omega)
      exact ⟨⟨h.gen, h.bb, h.base, h.bl, by have := h.all; simp only; omega⟩, rfl⟩
    · exact ih (by omega)
theorem able01 (s : DS) (f : Nat) (hf : f < 8) : ableP s (f : Int) = ableP s 0 := by
  unfold ableP
  split
  · rfl
  · split
    · rfl
    · rw [if_neg (by omega), if_neg (by decide)]
theorem Rs.of_V {G : Nat → Prop} {W W0 : World} {e base : Nat} {v : Value} {xs : List (List Int)} (h : Kd.V KdB e W base (fun b => W0.heap.size ≤ b) v xs) (hG : ∀ b, G b → b < W0.heap.size) : Rs G W v xs :=
  show Kd.V KdB e W 0 (fun b => ¬ G b) v xs from Kd.V_mono h (fun b hb hg => by have := hG b hg; omega)
def OS (G : Nat → Prop) (w : World) (t g : Nat) (s : DS) (f : Nat) (W : World) : Prop :=
  IsD (fun k => G k ∨ k = t) W g s ∧ IsT (fun k => G k ∨ k = t) W t g (pk s f).1 ∧ Below w.heap.size w W
end Go.Proofs.Ytehjbhnlbjbhfaa.Tp
