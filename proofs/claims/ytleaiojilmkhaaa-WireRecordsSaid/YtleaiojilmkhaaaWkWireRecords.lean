/- Records one behind the other are read as they were. -/
import Derived.Test.YtleaiojilmkhaaaAllC
import Derived.Lib.SliceRun
namespace Go.Proofs.Ytleaiojilmkhaaa.Wk
open Go Go.RowKit Go.Proofs.YtleaiojilmkhaaaW.PrintWords Go.Proofs.YtleaiojilmkhaaaW.PrintLast Go.Proofs.YtleaiojilmkhaaaW.PrintMore Go.Proofs.Ytleaiojilmkhaaa.Wire
open Go.Proofs.Ytleaiojilmkhaaa.PWireBack (bytes_Equal.calls wire_Seal.calls)
attribute [local go_sem] max2_int min2_int max_two min_two
set_option linter.unusedVariables false
set_option linter.unusedSimpArgs false
def slices_Clone_byte_byte.f (l0 : List Int) : Option (List Int) := if l0.length < 140737488355328 then some l0 else none
set_option maxHeartbeats 8000000 in
set_option maxRecDepth 100000 in
theorem slices_Clone_byte_byte.calls (A0 : Option Addr) (c0 : Nat) (l0 : List Int) (r : List Int) (w : World) (hr0 : Kd.C (Kd.int .u8) w A0 l0.length l0) (hc0 : l0.length ≤ c0) (h : slices_Clone_byte_byte.f l0 = some r) :
    Calls Try.prog 34 #[.slice A0 l0.length c0] w fun e w' => ∃ v0_ : Value, e = .returned (v0_) ∧ Kd.R (Kd.int .u8) 5 w' w.heap.size (fun _ => True) v0_ r ∧ Below w.heap.size w w' := by
  unfold slices_Clone_byte_byte.f at h
  by_cases c1 : l0.length < 140737488355328
  · rw [if_pos c1] at h
    obtain rfl := Option.some.inj h
    clear h
    have LM := Aside0.mk c1
    clear c1
    have HR0 := Aside0.mk hr0
    have HC0 := Aside0.mk hc0
    clear hr0 hc0
    have HB := Aside0.mk (Below.refl w.heap.size w)
    cases A0 with
    | none =>
      have hn : l0 = [] := by
        cases l0 with
        | nil => rfl
        | cons a_ b_ => obtain ⟨ad, c, e, _⟩ := Kd.C_get HR0.out (0 : Int) 0 (by decide) (by simp); cases e
      subst hn
      have heq : ∀ W : World, (binOp .eql 22 (.slice none ([] : List Int).length c0) (.slice none 0 0)).run Try.prog W = .ok (.bool true) W := fun W => Lib.run_eql_slice_nil W 22 5 none _ _ _ _ Try.underlying22
      have heq2 : ∀ W : World, (binOp .eql 22 (.slice none 0 c0) (.slice none 0 0)).run Try.prog W = .ok (.bool true) W := fun W => Lib.run_eql_slice_nil W 22 5 none _ _ _ _ Try.underlying22
      go_enter Try.func34, Try.ntmps34
      go_wp2
      go_ret
      exact ⟨_, rfl, Kd.R_nil _ _ _ _ _, HB.out⟩
    | some ad =>
      have heq : ∀ W : World, (binOp .eql 22 (.slice (some ad) l0.length c0) (.slice none 0 0)).run Try.prog W = .ok (.bool false) W := fun W => Lib.run_eql_slice_nil W 22 5 (some ad) _ _ _ _ Try.underlying22
      obtain ⟨y1, Ny1⟩ : ∃ y_ : List Int, Aside0 (y_ = ([] : List Int)) := ⟨_, ⟨rfl⟩⟩
      have LM2 := Aside0.mk (show y1.length + l0.length < 140737488355328 by have := LM.out; rw [Ny1.out]; simpa using this)
      have Ny2 := Aside0.mk (show l0 = y1 ++ l0 by rw [Ny1.out]; rfl)
      go_enter Try.func34, Try.ntmps34
      go_wp2_with (first | ((with_reducible refine gate_dst (N := 5) rfl ?_); refine Kd.R_lit (Kd.int .u8) _ 5 ?hg (N := 5) ?hd (xs := ([] : List Int)) (inner := []) (ok := fun _ => True) (okp := fun _ => True) ?hr ?hp (fun _ hk => hk) trivial (Below.refl _ _) (Nat.le_refl _) (by simp) ?_; (case hd => rfl); (case hg => rfl); (case hr => first | (go_simp; done) | (go_simp; rfl)); (case hp => exact (Reps.none _ _)); intro va w4 ho5 hb hg_ hnew_; clear hg_ hnew_; (first | rw [← Ny1.out] at ho5 | (simp only [Int.reduceToNat] at ho5; rw [← Ny1.out] at ho5)); have n0_ := Aside0.mk (Kd.R_lower ho5 (below_size (by repeat (first | (with_reducible first | exact HB.out | apply below_alloc | apply pw_below_drewN | apply below_drew1) | exact HB.out)))); have n1_ := Aside0.mk (below_step (by repeat (first | (with_reducible first | exact HB.out | apply below_alloc | apply pw_below_drewN | apply below_drew1) | exact HB.out)) hb); clear HB; have HOa := n0_; have HB := n1_; clear n0_ n1_; clear hb ho5) | ((with_reducible refine gate_builtin (b := .append) (xs := #[.tmp 5, .tmp 6]) rfl ?_); at_builtin; refine Kd.R_append_rows (Kd.int .u8) (w0 := w) w.heap.size rfl (.tmp 5) (.tmp 6) 22 5 (.int .u8 0) 1 rfl Try.underlying22 info5 rfl (by decide) (by omega) va y1 l0 _ _ _ (fun _ => True) (fun _ => False) rfl rfl ?aO ?aR (fun _ _ h => h) (fun _ h => h.elim) ?aF ?aB ?aS ?aL ?_; (case aR => repeat (first | exact (Kd.C_below HR0.out HB.out) | (with_reducible refine Kd.C_alloc ?_ _) | (with_reducible refine Kd.C_drewN ?_ _) | (with_reducible refine Kd.C_drew ?_))); (case aB => exact (by repeat (first | (with_reducible first | exact HB.out | apply below_alloc | apply pw_below_drewN | apply below_drew1) | exact HB.out))); (case aF => exact (fun _ _ => trivial)); (case aO => exact (by (with_reducible repeat (first | apply Kd.R_alloc | apply Kd.R_drewN | apply Kd.R_drew)); exact HOa.out)); (case aS => exact (below_size (by repeat (first | (with_reducible first | exact HB.out | apply below_alloc | apply pw_below_drewN | apply below_drew1) | exact HB.out)))); (case aL => have := LM2.out; omega); intro vb w6 ho hb hg hat; rw [← Ny2.out] at ho; have n0_ := Aside0.mk (hb); have n1_ := Aside0.mk (ho); clear HB; clear HOa; have HB := n0_; have HOa := n1_; clear n0_ n1_; clear ho hb hg hat))
      go_ret
      exact ⟨_, rfl, by (with_reducible repeat (first | apply Kd.R_alloc | apply Kd.R_drewN | apply Kd.R_drew)); exact HOa.out, by repeat (first | (with_reducible first | exact HB.out | apply below_alloc | apply pw_below_drewN | apply below_drew1) | exact HB.out)⟩
  · rw [if_neg c1] at h; cases h



theorem Clone_any (A0 : Option Addr) (c0 : Nat) (l0 : List Int) (w : World) (hr0 : Kd.C (Kd.int .u8) w A0 l0.length l0) (hc0 : l0.length ≤ c0) (hl : l0.length < 140737488355328) :
    Calls Try.prog 34 #[.slice A0 l0.length c0] w fun e w' => ∃ v0_ : Value, e = .returned (v0_) ∧ Kd.R (Kd.int .u8) 5 w' w.heap.size (fun _ => True) v0_ l0 ∧ Below w.heap.size w w' :=
  slices_Clone_byte_byte.calls A0 c0 l0 l0 w hr0 hc0 (by unfold slices_Clone_byte_byte.f; rw [if_pos hl])
/-! ### plain -/
def cost (ls : List (List Int)) : Nat := (ls.map fun d => 1 + min d.length 16384).sum
def wants (ls : List (List Int)) : List (List Int) := ls.filter fun d => decide (d.length ≤ 8192)
def sb (ls : List (List Int)) : List Int := (wants ls).flatMap sealP
theorem take_next (ls : List (List Int)) (i : Nat) (h : i < ls.length) : ls.take (i + 1) = ls.take i ++ [ls.getD i []] := by
  rw [List.take_succ_eq_append_getElem h, List.getD_eq_getElem?_getD, List.getElem?_eq_getElem h]; rfl
theorem cost_app (a b : List (List Int)) : cost (a ++ b) = cost a + cost b := by unfold cost; rw [List.map_append, List.sum_append]
theorem cost_take (ls : List (List Int)) (i : Nat) : cost (ls.take i) ≤ cost ls := by
  have h := cost_app (ls.take i) (ls.drop i)
  rw [List.take_append_drop] at h; omega
theorem cost_next (ls : List (List Int)) (i : Nat) (h : i < ls.length) : cost (ls.take (i + 1)) = cost (ls.take i) + (1 + min (ls.getD i []).length 16384) := by
  rw [take_next ls i h, cost_app]; simp [cost]
theorem wants_next (ls : List (List Int)) (i : Nat) (h : i < ls.length) : wants (ls.take (i + 1)) = wants (ls.take i) ++ (if (ls.getD i []).length ≤ 8192 then [ls.getD i []] else []) := by
  rw [take_next ls i h]
  unfold wants
  rw [List.filter_append]
  congr 1
  by_cases c : (ls.getD i []).length ≤ 8192
  · rw [if_pos c, List.filter_cons, if_pos (decide_eq_true c)]; rfl
  · rw [if_neg c, List.filter_cons, if_neg (by rw [decide_eq_false c]; decide)]; rfl
theorem sb_app (a b : List (List Int)) : sb (a ++ b) = sb a ++ sb b := by unfold sb wants; rw [List.filter_append, List.flatMap_append]
theorem sb_len (ls : List (List Int)) : (sb ls).length ≤ 7 * cost ls := by
  induction ls with
  | nil => simp [sb, wants]
  | cons d ls ih =>
    have h1 := sb_app [d] ls
    have h2 := cost_app [d] ls
    rw [List.singleton_append] at h1 h2
    rw [h1, h2, List.length_append]
    have h3 : (sb [d]).length ≤ 7 * cost [d] := by
      unfold sb wants
      by_cases c : d.length ≤ 8192
      · rw [List.filter_cons, if_pos (decide_eq_true c)]
        have := seal_len d
        have := enc_short (show d.length < 16384 by omega)
        simp [cost]; omega
      · rw [List.filter_cons, if_neg (by rw [decide_eq_false c]; decide)]; simp
    omega
theorem wants_len (ls : List (List Int)) : (wants ls).length ≤ cost ls := by
  have h1 : (wants ls).length ≤ ls.length := List.length_filter_le _ _
  have h2 : ls.length ≤ cost ls := by
    induction ls with
    | nil => simp
    | cons d ls ih =>
      have h2 := cost_app [d] ls
      rw [List.singleton_append] at h2
      have : cost [d] = 1 + min d.length 16384 := by simp [cost]
      have := ih (List.length_filter_le _ _)
      rw [h2, List.length_cons]; omega
  omega
theorem wants_mem {ls : List (List Int)} {d : List Int} (h : d ∈ wants ls) : d ∈ ls ∧ d.length ≤ 8192 := by
  unfold wants at h
  have := List.mem_filter.1 h
  exact ⟨this.1, of_decide_eq_true this.2⟩
theorem sb_bs {ls : List (List Int)} (h : ∀ d ∈ ls, Bs d) : Bs (sb ls) := by
  intro x hx
  unfold sb at hx
  obtain ⟨d, hd, hxd⟩ := List.mem_flatMap.1 hx
  obtain ⟨h1, h2⟩ := wants_mem hd
  exact seal_bs (h d h1) (by omega) x hxd
theorem all_go (r : List Int) (hr : (openP r).2.2 ≠ 0) : ∀ (ds : List (List Int)) (P : List Int) (f : Nat), (∀ d ∈ ds, d.length ≤ 8192) → ds.length < f → allGo f (P ++ (ds.flatMap sealP ++ r)) P.length = (ds, (P ++ ds.flatMap sealP).length) := by
  intro ds
  induction ds with
  | nil =>
    intro P f _ hf
    obtain ⟨f, rfl⟩ : ∃ f', f = f' + 1 := ⟨f - 1, by simp at hf; omega⟩
    rw [allGo, List.drop_left, List.flatMap_nil, List.nil_append, if_pos hr, List.append_nil]
  | cons d ds ih =>
    intro P f hd hf
    obtain ⟨f, rfl⟩ : ∃ f', f = f' + 1 := ⟨f - 1, by simp at hf; omega⟩
    have ho : openP ((P ++ ((d :: ds).flatMap sealP ++ r)).drop P.length) = (d, (sealP d).length, 0) := by
      rw [List.drop_left, List.flatMap_cons, List.append_assoc, open_seal d _ (hd d (List.mem_cons_self ..))]
    have e := ih (P ++ sealP d) f (fun x hx => hd x (List.mem_cons_of_mem _ hx)) (by rw [List.length_cons] at hf; omega)
    rw [allGo, ho]
    simp only [ne_eq, not_true_eq_false, if_false]
    rw [List.length_append, show (P ++ sealP d ++ (ds.flatMap sealP ++ r)) = P ++ ((d :: ds).flatMap sealP ++ r) by rw [List.flatMap_cons]; simp only [List.append_assoc]] at e
    rw [e, List.flatMap_cons]
    simp only [List.append_assoc]
theorem all_sb (ls : List (List Int)) (r : List Int) (hr : (openP r).2.2 ≠ 0) : allP (sb ls ++ r) = (wants ls, (sb ls).length) := by
  have h := all_go r hr (wants ls) [] ((sb ls ++ r).length + 1) (fun d hd => (wants_mem hd).2) (by
    have : (wants ls).length ≤ (sb ls).length := by
      unfold sb
      have : ∀ ds : List (List Int), ds.length ≤ (ds.flatMap sealP).length := by
        intro ds
        induction ds with
        | nil => simp
        | cons d ds ih => rw [List.flatMap_cons, List.length_append, List.length_cons]; have := seal_len d; omega
      exact this _
    rw [List.length_append]; omega)
  rw [List.nil_append, List.nil_append] at h
  exact h
theorem Seal_long (A0 : Option Addr) (c0 : Nat) (l0 : List Int) (w : World) (hr0 : Kd.C (Kd.int .u8) w A0 l0.length l0) (hc0 : l0.length ≤ c0) (hl : 8192 < l0.length) :
    Calls Try.prog 22 #[.slice A0 l0.length c0] w fun e w' => ∃ v0_ : Value, e = .returned (.tuple #[v0_, .int .i64 4]) ∧ Below w.heap.size w w' := by
  refine (wire_Seal.calls 90001 A0 c0 l0 [] 4 w hr0 hc0 (pseal_long l0 hl 90001)).mono ?_
  rintro e w' ⟨v, rfl, _, hB⟩
  exact ⟨v, rfl, hB⟩
/-- The bytes and the wanted ones so far. -/
def RS (w : World) (X : List Int) (Y : List (List Int)) (v7 v8 : Value) (W : World) : Prop :=
  Kd.R (Kd.int .u8) 5 W w.heap.size (fun _ => True) v7 X ∧ Kd.R (Kd.fixed KdB w) 22 W w.heap.size (fun _ => True) v8 Y ∧ Below w.heap.size w W
theorem RS.below {w : World} {X : List Int} {Y : List (List Int)} {v7 v8 : Value} {W W' : World} (h : RS w X Y v7 v8 W) (hb : Below W.heap.size W W') : RS w X Y v7 v8 W' := ⟨Kd.R_below h.1 hb, Kd.R_below h.2.1 hb, below_step h.2.2 hb⟩
theorem RS.one {w : World} {X X' : List Int} {Y : List (List Int)} {v7 v7' v8 : Value} {W W' : World} (h : RS w X Y v7 v8 W) (hr : Kd.R (Kd.int .u8) 5 W' w.heap.size (fun _ => True) v7' X') (hb : Below w.heap.size w W') (hg : W.grownBy W' v7.ownBlock) : RS w X' Y v7' v8 W' :=
  ⟨hr, Kd.R_over h.2.1 h.1 (fun q hq => by have : q = 22 := by simpa [Kd.fixed] using hq
                                           omega) hg, hb⟩
theorem RS.two {w : World} {X : List Int} {Y Y' : List (List Int)} {v7 v8 v8' : Value} {W W' : World} (h : RS w X Y v7 v8 W) (hr : Kd.R (Kd.fixed KdB w) 22 W' w.heap.size (fun _ => True) v8' Y') (hb : Below w.heap.size w W') (hg : W.grownBy W' v8.ownBlock) : RS w X Y' v7 v8' W' :=
  ⟨Kd.R_over h.1 h.2.1 (fun q hq => by have : q = 5 := by simpa [Kd.int, Kd.scalar] using hq
                                       omega) hg, hr, hb⟩
theorem RS.want {w : World} {X : List Int} {Y : List (List Int)} {v7 : Value} {A : Option Addr} {n c : Nat} {W : World} (h : RS w X Y v7 (.slice A n c) W) : Kd.C KdB W A Y.length Y := by
  have h1 := (Kd.R_reads' h.2.1).2.2
  exact ReadsRow.imp_ (R := (Kd.fixed KdB w).K W) h1 (Below.refl _ _) (fun p c hp => KdB.K_below h.2.2 hp)

set_option maxHeartbeats 8000000 in
set_option maxRecDepth 100000 in
theorem recs (A0 : Option Addr) (c0 : Nat) (ls : List (List Int)) (A1 : Option Addr) (c1 : Nat) (l1 : List Int) (w : World) (hr0 : Kd.C KdB w A0 ls.length ls) (hc0 : ls.length ≤ c0) (hr1 : Kd.C (Kd.int .u8) w A1 l1.length l1) (hc1 : l1.length ≤ c1) (hb0 : ∀ d ∈ ls, Bs d) (hb1 : Bs l1) :
    Calls Try.prog 15 #[.slice A0 ls.length c0, .slice A1 l1.length c1] w fun e w' => e = .returned (.bool true) ∧ Below w.heap.size w w' := by
  have HR0 := Aside0.mk hr0
  have HC0 := Aside0.mk hc0
  have HR1 := Aside0.mk hr1
  have HC1 := Aside0.mk hc1
  have HB0 := Aside0.mk hb0
  have HB1 := Aside0.mk hb1
  have HBR := Aside0.mk (Below.refl w.heap.size w)
  have hm := Kd.C_max HR0.out
  clear hr0 hc0 hr1 hc1 hb0 hb1
  go_enter Try.func15, Try.ntmps15
  go_wp2_with (fail)
  go_loopw [5, 6] (fun v5 v6 wr => ∃ i q : Nat, i ≤ ls.length ∧ q ≤ 40000 ∧ v5 = .int .i64 (q : Int) ∧ v6 = .int .i64 (i : Int) ∧ Aside0 (q = cost (ls.take i)) ∧ Aside0 (Below w.heap.size w wr)) (fun _ v6 _ => (ls.length - intOf v6).toNat)
  case atStart => exact ⟨0, 0, by omega, by omega, rfl, rfl, ⟨by simp [cost]⟩, HBR⟩
  case round =>
    obtain ⟨i, q, hi, hq, rfl, rfl, HQ, HW⟩ := hrel
    clear HBR
    by_cases hlt : i < ls.length
    · by_cases hqs : q ≤ 16384
      · obtain ⟨ad, A2, c2, e0, hc2, hC2, hx⟩ := bb_get HR0.out i hlt
        subst e0
        replace hx := (HW.out.cell (World.block_lt_of_cell? w _ hx)).trans hx
        have hn := cost_next ls i hlt
        have HL2 := Aside0.mk hc2
        have hm2 := Kd.C_max hC2
        clear hc2 hC2
        generalize (ls.getD i []).length = m at *
        have HN := Aside0.mk hn
        clear hn
        have hd1 : decide ((q : Int) ≤ 16384) = true := decide_eq_true (by omega)
        by_cases hbig : 16384 < m
        · have hb : ((16384 : Int) < (m : Int)) := by omega
          go_wp2
          go_roundw
          case rel => exact ⟨i + 1, q + (1 + 16384), by omega, by omega, by go_num, by go_num, ⟨by rw [HN.out, ← HQ.out]; omega⟩, HW⟩
          case measure => simp [intOf]; omega
        · have hb : ¬ ((16384 : Int) < (m : Int)) := by omega
          go_wp2
          go_roundw
          case rel => exact ⟨i + 1, q + (1 + m), by omega, by omega, by go_num, by go_num, ⟨by rw [HN.out, ← HQ.out]; omega⟩, HW⟩
          case measure => simp [intOf]; omega
      · have hd1 : decide ((q : Int) ≤ 16384) = false := decide_eq_false (by omega)
        have hd2 : decide ((16384 : Int) < (q : Int)) = true := decide_eq_true (by omega)
        go_wp2_with (fail)
        refine (awake_any _).mono ?_
        rintro e w1 ⟨rfl, hB⟩
        have HBA := Aside0.mk (below_step HW.out hB)
        clear hB
        go_wp2
        go_ret
        exact ⟨rfl, HBA.out⟩
    · have hie : ls.take i = ls := List.take_of_length_le (by omega)
      rw [hie] at HQ
      clear hie
      by_cases hqs : q ≤ 16384
      · have hd2 : decide ((16384 : Int) < (q : Int)) = false := decide_eq_false (by omega)
        by_cases hl1 : l1.length ≤ 16384
        · have hd3 : decide ((16384 : Int) < (l1.length : Int)) = false := decide_eq_false (by omega)
          have HCO := Aside0.mk (show cost ls ≤ 16384 by rw [← HQ.out]; exact hqs)
          have HLL := Aside0.mk hl1
          have H0 := Aside0.mk (show RS w [] [] (.slice none 0 0) (.slice none 0 0) wr from ⟨Kd.R_nil _ _ _ _ _, Kd.R_nil _ _ _ _ _, HW.out⟩)
          go_wp2_with (fail)
          clear hlt hi
          obtain ⟨wo, rfl⟩ : ∃ wo : World, wo = wr := ⟨_, rfl⟩
          go_loopw [7, 8, 47] (fun v7 v8 v47 wr => ∃ (i : Nat) (A7 : Option Addr) (c7 : Nat) (A8 : Option Addr) (c8 : Nat), i ≤ ls.length ∧ v7 = .slice A7 (sb (ls.take i)).length c7 ∧ v8 = .slice A8 (wants (ls.take i)).length c8 ∧ v47 = .int .i64 (i : Int) ∧ Aside0 (RS w (sb (ls.take i)) (wants (ls.take i)) (.slice A7 (sb (ls.take i)).length c7) (.slice A8 (wants (ls.take i)).length c8) wr)) (fun _ _ v47 _ => (ls.length - intOf v47).toNat)
          case atStart => exact ⟨0, none, 0, none, 0, by omega, rfl, rfl, rfl, H0⟩
          case round =>
            obtain ⟨j, A7, c7, A8, c8, hj, rfl, rfl, rfl, H⟩ := hrel
            clear H0
            by_cases hlt : j < ls.length
            · obtain ⟨ad, A2, c2, e0, hc2, hC2, hx⟩ := bb_get HR0.out j hlt
              subst e0
              replace hx := (H.out.2.2.cell (World.block_lt_of_cell? w _ hx)).trans hx
              have HX1 := Aside0.mk (wants_next ls j hlt)
              have HX2 := Aside0.mk (show sb (ls.take (j + 1)) = sb (ls.take j) ++ sb [ls.getD j []] by rw [take_next ls j hlt, sb_app])
              have HX3 := Aside0.mk (Nat.le_trans (sb_len (ls.take j)) (Nat.mul_le_mul_left 7 (Nat.le_trans (cost_take ls j) HCO.out)))
              have HX4 := Aside0.mk (Nat.le_trans (wants_len (ls.take j)) (Nat.le_trans (cost_take ls j) HCO.out))
              have HD := Aside0.mk (HB0.out (ls.getD j []) (by rw [List.getD_eq_getElem?_getD, List.getElem?_eq_getElem hlt]; exact List.getElem_mem hlt))
              have HC2 := Aside0.mk (And.intro hc2 hC2)
              clear hc2 hC2
              generalize ls.getD j [] = d at *
              obtain ⟨X, hX⟩ : ∃ X, sb (ls.take j) = X := ⟨_, rfl⟩
              obtain ⟨Y, hY⟩ : ∃ Y, wants (ls.take j) = Y := ⟨_, rfl⟩
              rw [hX] at H HX2 HX3
              rw [hY] at H HX1 HX4
              rw [hX, hY]
              clear hX hY
              by_cases h8 : d.length ≤ 8192
              · have HSB := Aside0.mk (show sb [d] = sealP d by unfold sb wants; rw [List.filter_cons, if_pos (decide_eq_true h8)]; simp)
                have HWN := Aside0.mk (show wants (ls.take (j + 1)) = Y ++ [d] by rw [HX1.out, if_pos h8])
                have H8 := Aside0.mk h8
                have HSL := Aside0.mk (show (X.length + (sealP d).length) * 1 ≤ 140737488355328 by
                  have h1 := HX3.out; have h2 := seal_len d; have h3 := enc_short (show d.length < 16384 by omega); omega)
                have HYL := Aside0.mk (show (Y.length + 1) * 24 ≤ 140737488355328 by have h1 := HX4.out; omega)
                clear h8
                go_wp2_with (fail)
                refine (Seal_any A2 c2 d _ (Kd.C_below HC2.out.2 H.out.2.2) HC2.out.1 HD.out H8.out).mono ?_
                rintro e w3 ⟨v3, rfl, hR, hB⟩
                obtain ⟨A3, c3, rfl⟩ := Kd.R_slice hR
                have HRS := Aside0.mk (Kd.R_reads' hR)
                have H1 := Aside0.mk (H.out.below hB)
                clear hR hB H hx
                go_wp2_with (first | ((with_reducible refine gate_builtin (b := .append) (xs := #[.tmp 58, .tmp 59]) rfl ?_); at_builtin; refine Kd.R_append_rows (Kd.int .u8) (w0 := w) w.heap.size rfl (.tmp 58) (.tmp 59) 22 5 (.int .u8 0) 1 rfl Try.underlying22 info5 rfl (by decide) (by omega) (.slice A7 X.length c7) X (sealP d) _ _ _ (fun _ => True) (fun _ => False) rfl rfl H1.out.1 HRS.out.2.2 (fun _ _ h => h) (fun _ h => h.elim) (fun _ _ => trivial) H1.out.2.2 H1.out.2.2.size HSL.out ?_; intro vb w6 ho hb hg hat; obtain ⟨A6, c6, e6⟩ := Kd.R_slice ho; subst e6; have H2 := Aside0.mk (H1.out.one ho hb hg); clear H1; clear ho hb hg hat) | ((with_reducible refine gate_builtin (b := .append) (xs := #[.tmp 61, .tmp 63]) rfl ?_); at_builtin; refine Kd.R_append (Kd.fixed KdB w) (w0 := w) w.heap.size rfl (.tmp 61) (.tmp 63) 57 22 (.slice none 0 0) 24 rfl Try.underlying57 info22 rfl (show 0 < 1 by decide) (by omega) (.slice A8 Y.length c8) Y d [.slice A2 d.length c2] (fun _ => True) (fun _ => False) rfl rfl ⟨A2, c2, rfl, HC2.out.1, HC2.out.2⟩ (fun _ hk => hk.elim) (fun _ _ => trivial) H2.out.2.1 H2.out.2.2 H2.out.2.2.size HYL.out ?_; intro v9 w9 h1 h2 h3 _; obtain ⟨A9, c9, e9⟩ := Kd.R_slice h1; subst e9; have H3 := Aside0.mk (H2.out.two h1 h2 h3); clear H2; clear h1 h2 h3))
                rw [← HSB.out, ← HX2.out, ← HWN.out] at H3
                have HS1 := Aside0.mk (show X.length + (sealP d).length = (sb (ls.take (j + 1))).length by rw [HX2.out, HSB.out, List.length_append])
                have HS2 := Aside0.mk (show Y.length + 1 = (wants (ls.take (j + 1))).length by rw [HWN.out, List.length_append]; rfl)
                go_roundw
                case rel => exact ⟨j + 1, A6, c6, A9, c9, hlt, by rw [HS1.out], by rw [HS2.out], by go_num, H3⟩
                case measure => simp [intOf]; omega
              · have HSB := Aside0.mk (show sb [d] = [] by unfold sb wants; rw [List.filter_cons, if_neg (by rw [decide_eq_false h8]; decide)]; rfl)
                have HWN := Aside0.mk (show wants (ls.take (j + 1)) = Y by rw [HX1.out, if_neg h8, List.append_nil])
                have H8 := Aside0.mk (show 8192 < d.length by omega)
                clear h8
                rw [HSB.out, List.append_nil] at HX2
                go_wp2_with (fail)
                refine (Seal_long A2 c2 d _ (Kd.C_below HC2.out.2 H.out.2.2) HC2.out.1 H8.out).mono ?_
                rintro e w3 ⟨v3, rfl, hB⟩
                have H1 := Aside0.mk (H.out.below hB)
                clear hB H hx
                go_wp2
                rw [← HX2.out, ← HWN.out] at H1
                rw [← HX2.out, ← HWN.out]
                go_roundw
                case rel => exact ⟨j + 1, A7, c7, A8, c8, hlt, rfl, rfl, by go_num, H1⟩
                case measure => simp [intOf]; omega
            · have hie : ls.take j = ls := List.take_of_length_le (by omega)
              rw [hie] at H
              rw [hie]
              have HX3 := Aside0.mk (Nat.le_trans (sb_len ls) (Nat.mul_le_mul_left 7 HCO.out))
              clear hie
              obtain ⟨X, hX⟩ : ∃ X, sb ls = X := ⟨_, rfl⟩
              obtain ⟨Y, hY⟩ : ∃ Y, wants ls = Y := ⟨_, rfl⟩
              have HBX := Aside0.mk (show Bs (X ++ l1) by rw [← hX]; exact (sb_bs HB0.out).app HB1.out)
              have HALL := Aside0.mk (all_sb ls l1)
              rw [hX] at H HX3 HALL
              rw [hY] at H HALL
              rw [hX, hY]
              clear hX hY
              obtain ⟨S, hS⟩ : ∃ S, X ++ l1 = S := ⟨_, rfl⟩
              have HS := Aside0.mk hS
              have HSN := Aside0.mk (show S.length < 1000000000 by rw [← hS, List.length_append]; have h1 := HX3.out; have h2 := HLL.out; omega)
              rw [hS] at HBX HALL
              clear hS
              have HOL := Aside0.mk (show l1.length < 140737488355328 by have := HLL.out; omega)
              by_cases eo : (openP l1).2.2 = 0
              · have HEO := Aside0.mk eo
                clear eo
                go_wp2_with (fail)
                clear hlt hj
                refine (Open_calls A1 c1 l1 _ (Kd.C_below HR1.out H.out.2.2) HC1.out HB1.out HOL.out).mono ?_
                rw [HEO.out]
                rintro e w5 ⟨v5, rfl, _, hB⟩
                have H1 := Aside0.mk (H.out.below hB)
                clear hB H
                go_wp2_with (fail)
                refine (awake_any _).mono ?_
                rintro e w1 ⟨rfl, hB⟩
                have HBA := Aside0.mk (below_step H1.out.2.2 hB)
                clear hB
                go_wp2
                go_ret
                exact ⟨rfl, HBA.out⟩
              · have HA2 := Aside0.mk (HALL.out eo)
                have heo3 : ((openP l1).2.2 != (0 : Int)) = true := by simpa using eo
                have heo2 : ((openP l1).2.2 == (0 : Int)) = false := by simpa using eo
                clear eo HALL
                go_wp2_with (fail)
                clear hlt hj
                refine (Open_calls A1 c1 l1 _ (Kd.C_below HR1.out H.out.2.2) HC1.out HB1.out HOL.out).mono ?_
                rintro e w5 ⟨v5, rfl, _, hB⟩
                have H1 := Aside0.mk (H.out.below hB)
                clear hB H
                generalize (openP l1).2.2 = er at *
                have HXB := Aside0.mk (show X.length < 140737488355328 by have := HX3.out; omega)
                have HSL := Aside0.mk (show (X.length + l1.length) * 1 ≤ 140737488355328 by have h1 := HX3.out; have h2 := HLL.out; omega)
                go_wp2_with (fail)
                refine (Clone_any A7 c7 X _ (Kd.R_reads' H1.out.1).2.2 (Kd.R_reads' H1.out.1).2.1 HXB.out).mono ?_
                rintro e w6 ⟨v6, rfl, hR, hB⟩
                obtain ⟨A6, c6, rfl⟩ := Kd.R_slice hR
                have H2 := Aside0.mk (H1.out.below hB)
                have HSZ := Aside0.mk hB.size
                have HBC := Aside0.mk hB
                have HR6 := Aside0.mk hR
                clear hB hR
                go_wp2_with (first | ((with_reducible refine gate_builtin (b := .append) (xs := #[.tmp 77, .tmp 78]) rfl ?_); at_builtin; refine Kd.R_append_rows (Kd.int .u8) (w0 := w5) w5.heap.size rfl (.tmp 77) (.tmp 78) 22 5 (.int .u8 0) 1 rfl Try.underlying22 info5 rfl (by decide) (by omega) (.slice A6 X.length c6) X l1 _ _ _ (fun _ => True) (fun _ => False) rfl rfl HR6.out (Kd.C_below HR1.out H2.out.2.2) (fun _ _ h => h) (fun _ h => h.elim) (fun _ _ => trivial) HBC.out HSZ.out HSL.out ?_; intro vb w7 ho hb hg hat; rw [HS.out] at ho; obtain ⟨A8b, c8b, e8⟩ := Kd.R_slice ho; subst e8; have HR7 := Aside0.mk ho; have H3 := Aside0.mk (H1.out.below hb); clear H2; clear ho hb hg hat))
                refine (All_calls A8b c8b S _ (Kd.R_reads' HR7.out).2.2 (Kd.R_reads' HR7.out).2.1 HBX.out HSN.out).mono ?_
                rw [HA2.out]
                rintro e w8 ⟨v8, rfl, hR, hB⟩
                obtain ⟨A9, c9, rfl⟩ := Kd.R_slice hR
                have HR8 := Aside0.mk (Kd.R_reads' hR)
                have H4 := Aside0.mk (H3.out.below hB)
                clear hR hB H3
                go_wp2_with (fail)
                refine (EqualFunc_same A9 c9 Y A8 c8 _ HR8.out.2.2 (RS.want H4.out)).mono ?_
                rintro e w9 ⟨rfl, hdr⟩
                have H5 := Aside0.mk (H4.out.below hdr.below)
                clear hdr H4
                go_wp2_with (fail)
                refine (awake_any _).mono ?_
                rintro e w1 ⟨rfl, hB⟩
                have HBA := Aside0.mk (below_step H5.out.2.2 hB)
                clear hB
                go_wp2
                go_ret
                exact ⟨rfl, HBA.out⟩
        · have hd3 : decide ((16384 : Int) < (l1.length : Int)) = true := decide_eq_true (by omega)
          go_wp2_with (fail)
          refine (awake_any _).mono ?_
          rintro e w1 ⟨rfl, hB⟩
          have HBA := Aside0.mk (below_step HW.out hB)
          clear hB
          go_wp2
          go_ret
          exact ⟨rfl, HBA.out⟩
      · have hd2 : decide ((16384 : Int) < (q : Int)) = true := decide_eq_true (by omega)
        go_wp2_with (fail)
        refine (awake_any _).mono ?_
        rintro e w1 ⟨rfl, hB⟩
        have HBA := Aside0.mk (below_step HW.out hB)
        clear hB
        go_wp2
        go_ret
        exact ⟨rfl, HBA.out⟩
theorem WireRecords {W : World} (a0 : Option Addr) (cap0 : Nat) (l0 : List (List Int)) (hl0 : l0.length ≤ cap0) (hC0 : Kd.C KdB W a0 l0.length l0) (hG0 : ∀ y ∈ l0, ∀ z ∈ y, (Lit.int .u8 z).wf = true) (a1 : Option Addr) (cap1 : Nat) (l1 : List Int) (hl1 : l1.length ≤ cap1) (hC1 : Kd.C (Kd.int .u8) W a1 l1.length l1) (hG1 : ∀ z ∈ l1, (Lit.int .u8 z).wf = true) :
    Calls Try.prog 15 #[.slice a0 l0.length cap0, .slice a1 l1.length cap1] W fun e w' => e = .returned (.bool true) ∧ Below W.heap.size W w' :=
  recs a0 cap0 l0 a1 cap1 l1 W hC0 hl0 hC1 hl1 (fun d hd z hz => wf_u8 (hG0 d hd z hz)) (fun z hz => wf_u8 (hG1 z hz))
end Go.Proofs.Ytleaiojilmkhaaa.Wk
