/- The reference's Pack: fields in one word, bit by bit. -/
import Derived.Test.YtjkllkbdmkkndaaPkF
namespace Go.Proofs.Ytjkllkbdmkkndaa.Pk
open Go Go.RowKit Go.Proofs.YtjkllkbdmkkndaaW.PrintWords Go.Proofs.YtjkllkbdmkkndaaW.PrintLast Go.Proofs.YtjkllkbdmkkndaaW.PrintMore Go.Proofs.Ytjkllkbdmkkndaa.Bits Go.Proofs.Ytjkllkbdmkkndaa.Ref
open Go.Proofs.Ytjkllkbdmkkndaa.PMaskUnpacks
attribute [local go_sem] max2_int min2_int max_two min_two
set_option linter.unusedVariables false
set_option linter.unusedSimpArgs false
theorem fitsOk_bits {b v : Int} {s : Bool} (h : fitsOk b v s = true) : 1 ≤ b ∧ b ≤ 64 := by unfold fitsOk at h; simp at h; exact h.1
def stepW (x a : Nat) (v : Nat) (i : Nat) : Nat := x + (v % 2 ^ i) * 2 ^ a
theorem step_bit (x a v i j : Nat) (hx : x < 2 ^ a) : (stepW x a v i).testBit j = if j < a then x.testBit j else (decide (j - a < i) && v.testBit (j - a)) := by
  unfold stepW
  rw [Nat.add_comm, Nat.mul_comm, Nat.testBit_two_pow_mul_add _ hx]
  by_cases h : j < a
  · rw [if_pos h, if_pos h]
  · rw [if_neg h, if_neg h, Nat.testBit_mod_two_pow]
theorem step_set (x a v i : Nat) (hx : x < 2 ^ a) (hi : a + i < 64) : (bl (stepW x a v i)).setIfInBounds (a + i) (.bool (v.testBit i)) = bl (stepW x a v (i + 1)) :=
  bl_set _ _ (a + i) _ hi (by rw [step_bit _ _ _ _ _ hx, if_neg (by omega), show a + i - a = i by omega, decide_eq_true (by omega), Bool.true_and]) (fun j hj hne => by
    rw [step_bit _ _ _ _ _ hx, step_bit _ _ _ _ _ hx]
    by_cases h : j < a
    · rw [if_pos h, if_pos h]
    · rw [if_neg h, if_neg h]
      by_cases h2 : j - a < i
      · rw [decide_eq_true h2, decide_eq_true (show j - a < i + 1 by omega)]
      · rw [decide_eq_false h2, decide_eq_false (show ¬ j - a < i + 1 by omega)])
set_option maxHeartbeats 8000000 in
set_option maxRecDepth 100000 in
theorem RPack_calls (A0 : Option Addr) (c0 : Nat) (l : List S56) (w : World) (hr0 : Kd.C k56 w A0 l.length l) (hc0 : l.length ≤ c0) (hl : l.length ≤ 500) (hG : ∀ f ∈ l, GF f) :
    Calls Try.prog 48 #[.slice A0 l.length c0] w fun e w' => e = .returned (.tuple #[.int .u64 (resP (packR l 0 0)).1, .int .i64 (resP (packR l 0 0)).2]) ∧ Below w.heap.size w w' := by
  have hu56 := Try.underlying56
  have HR0 := Aside0.mk hr0
  have HC0 := Aside0.mk hc0
  have HG := Aside0.mk hG
  clear hr0 hc0 hG
  obtain ⟨r, hr⟩ : ∃ r, packR l 0 0 = r := ⟨_, rfl⟩
  rw [hr]
  have HP := Aside0.mk hr
  clear hr
  have HB := Aside0.mk (Below.refl w.heap.size w)
  go_enter Try.func48, Try.ntmps48
  go_wp2
  go_loopw [5, 12] (fun v5 v12 wr => ∃ j a x : Nat, j ≤ l.length ∧ a ≤ 64 ∧ v5 = .int .i64 (a : Int) ∧ v12 = .int .i64 (j : Int) ∧ Aside0 (x < 2 ^ a) ∧ Aside0 (packR (l.drop j) x a = r) ∧ Aside0 (wr.heap[w.heap.size]? = some (.cells (bl x) 25 (0, 0))) ∧ Aside0 (Below w.heap.size w wr)) (fun _ v12 _ => (l.length - intOf v12).toNat)
  case atStart => exact ⟨0, 0, 0, by omega, by omega, rfl, rfl, ⟨by decide⟩, ⟨by rw [List.drop_zero]; exact HP.out⟩, ⟨by rw [bl_zero]; exact heap_alloc_new w _⟩, ⟨(Below.refl _ _).alloc (Nat.le_refl _) _⟩⟩
  case round =>
    clear HP HB
    obtain ⟨j, a, x, hj, ha, rfl, rfl, HX, HP, H0, HB⟩ := hrel
    by_cases hlt : j < l.length
    · have HT := Aside0.mk (show l.drop j = l[j] :: l.drop (j + 1) from List.drop_eq_getElem_cons hlt)
      have hg := HG.out _ (List.getElem_mem hlt)
      obtain ⟨ad, e0, hx0, hx1, hx2⟩ := at_T56 HR0.out (j : Int) (by omega) (by omega)
      cases e0
      replace hx0 := (HB.out.cell (World.block_lt_of_cell? w _ hx0)).trans hx0
      replace hx1 := (HB.out.cell (World.block_lt_of_cell? w _ hx1)).trans hx1
      replace hx2 := (HB.out.cell (World.block_lt_of_cell? w _ hx2)).trans hx2
      rw [rd_at l j hlt, Int.toNat_natCast] at hx0 hx1 hx2
      obtain ⟨f, hf⟩ : ∃ f, l[j] = f := ⟨_, rfl⟩
      rw [hf] at hx0 hx1 hx2 hg HT
      have HGF := Aside0.mk hg
      clear hg hf
      obtain ⟨b, v, s⟩ := f
      simp only at hx0 hx1 hx2
      go_wp2_with (first | ((with_reducible refine gate_dst (N := 7) rfl ?_); refine box_event ?hg (N := 7) ?hd (cs := #[.int .i64 0, .int .i64 0, .bool false]) (t := 56) ?hr ?_; (case hd => rfl); (case hg => rfl); (case hr => first | (go_simp; done) | (go_simp; rfl)); intro gb hgb w8 hbox hb; have n0_ := Aside0.mk (below_step HB.out hb); have n1_ := Aside0.mk hbox; have n2_ := Aside0.mk (show w.heap.size < gb by rw [hgb]; exact blk_lt H0.out); have n3_ := Aside0.mk (blk_below H0.out hb); clear HB H0; have HB := n0_; have BK := n1_; have GE := n2_; have H0 := n3_; clear n0_ n1_ n2_ n3_ hb hbox hgb; have hcz0 : w8.cell? ⟨gb, 0, none⟩ = some (.int .i64 0) := (blk_cell BK.out 0).trans rfl; have hcz1 : w8.cell? ⟨gb, 1, none⟩ = some (.int .i64 0) := (blk_cell BK.out 1).trans rfl; have hcz2 : w8.cell? ⟨gb, 2, none⟩ = some (.bool false) := (blk_cell BK.out 2).trans rfl; have hfz0 := blk_frozen BK.out 0; have hfz1 := blk_frozen BK.out 1; have hfz2 := blk_frozen BK.out 2))
      have BK1 := Aside0.mk (blk_put (cs' := #[.int .i64 b, .int .i64 v, .bool s]) (blk_put (cs' := #[.int .i64 b, .int .i64 v, .bool false]) (blk_put (cs' := #[.int .i64 b, .int .i64 0, .bool false]) BK.out 0 (.int .i64 b) rfl) 1 (.int .i64 v) rfl) 2 (.bool s) rfl)
      have H1 := Aside0.mk (blk_far (blk_far (blk_far H0.out (p := ⟨gb, 0, none⟩) (by have := GE.out; show w.heap.size ≠ gb; omega) (.int .i64 b)) (p := ⟨gb, 1, none⟩) (by have := GE.out; show w.heap.size ≠ gb; omega) (.int .i64 v)) (p := ⟨gb, 2, none⟩) (by have := GE.out; show w.heap.size ≠ gb; omega) (.bool s))
      have HB1 := Aside0.mk (((HB.out.setCell (p := ⟨gb, 0, none⟩) (Nat.le_of_lt GE.out) (.int .i64 b)).setCell (p := ⟨gb, 1, none⟩) (Nat.le_of_lt GE.out) (.int .i64 v)).setCell (p := ⟨gb, 2, none⟩) (Nat.le_of_lt GE.out) (.bool s))
      clear hcz0 hcz1 hcz2 hfz0 hfz1 hfz2 BK H0 HB hx0 hx1 hx2
      generalize ((w8.setCell ⟨gb, 0, none⟩ (.int .i64 b)).setCell ⟨gb, 1, none⟩ (.int .i64 v)).setCell ⟨gb, 2, none⟩ (.bool s) = W1 at *
      clear w8
      refine (Fits_calls b v s HGF.out.1 HGF.out.2 W1).mono ?_
      rintro e w2 ⟨rfl, hb⟩
      have BK2 := Aside0.mk (blk_below BK1.out hb)
      have H2 := Aside0.mk (blk_below H1.out hb)
      have HB2 := Aside0.mk (below_step HB1.out hb)
      clear hb BK1 H1 HB1
      have hcb : w2.cell? ⟨gb, 0, none⟩ = some (.int .i64 b) := (blk_cell BK2.out 0).trans rfl
      have hcv : w2.cell? ⟨gb, 1, none⟩ = some (.int .i64 v) := (blk_cell BK2.out 1).trans rfl
      have hpk : packR (l.drop j) x a = if fitsOk b v s = true ∧ b ≤ 64 - (a : Int) then packR (l.drop (j + 1)) (stepW x a (wd v) b.toNat) (a + b.toNat) else none := by rw [HT.out]; rfl
      rw [HP.out] at hpk
      have HPK := Aside0.mk hpk
      clear hpk HP
      obtain ⟨ok, hok⟩ : ∃ ok, fitsOk b v s = ok := ⟨_, rfl⟩
      rw [hok]
      have HOK := Aside0.mk hok
      clear hok
      cases ok with
      | false =>
        have HE := Aside0.mk (HPK.out.trans (if_neg (fun h => by rw [HOK.out] at h; exact absurd h.1 (by decide))))
        go_wp2
        go_ret2
        exact ⟨by rw [HE.out]; rfl, HB2.out⟩
      | true =>
        by_cases c : b ≤ 64 - (a : Int)
        · have hd : decide (64 - (a : Int) < b) = false := decide_eq_false (by omega)
          have HE := Aside0.mk (HPK.out.trans (if_pos ⟨HOK.out, c⟩))
          have hb1 := (fitsOk_bits HOK.out).1
          have hw : IntKind.u64.wrap v = (wd v : Int) := wd_cast v
          have HWL := Aside0.mk (wd_lt v)
          obtain ⟨n, rfl⟩ := Int.eq_ofNat_of_zero_le (show 0 ≤ b by omega)
          rw [Int.toNat_natCast] at HE
          have hw2 := Aside0.mk hw
          clear HPK hw
          generalize wd v = z at *
          have hw := hw2.out
          clear hw2
          go_wp2_with (fail)
          refine (From_calls z HWL.out _).mono ?_
          rintro e w3 ⟨rfl, hb⟩
          have BK3 := Aside0.mk (blk_below BK2.out hb)
          have H3 := Aside0.mk (blk_below H2.out hb)
          have HB3 := Aside0.mk (below_step HB2.out hb)
          clear hb BK2 H2 HB2 hcb hcv
          go_wp2_with (first | ((with_reducible refine gate_dst (N := 8) rfl ?_); refine box_event ?hg (N := 8) ?hd (cs := bl 0) (t := 25) ?hr ?_; (case hd => rfl); (case hg => rfl); (case hr => first | (rw [bl_zero]; go_simp; done) | (rw [bl_zero]; go_simp; rfl)); intro gc hgc w4 hbox hb; have n0_ := Aside0.mk (below_step HB3.out hb); have n1_ := Aside0.mk hbox; have n2_ := Aside0.mk (show w.heap.size < gc ∧ gb < gc by rw [hgc]; exact ⟨blk_lt H3.out, blk_lt BK3.out⟩); have n3_ := Aside0.mk (blk_below H3.out hb); have n4_ := Aside0.mk (blk_below BK3.out hb); clear HB3 H3 BK3; have HB4 := n0_; have BC4 := n1_; have GC := n2_; have H4 := n3_; have BK5 := Aside0.mk ((setRow_other w4 gc gb (bl z) (by have := GC.out; omega)).trans n4_.out); have hcb5 : (w4.setRow gc (bl z)).cell? ⟨gb, 0, none⟩ = some (.int .i64 (n : Int)) := (blk_cell BK5.out 0).trans rfl; clear n0_ n1_ n2_ n3_ n4_ hb hbox hgc) | (refine wpList_store_rowTo rfl 25 (.tmp 8) (.tmp 29) rfl rfl gc (bl z) rfl rfl 25 _ BC4.out (bl_info _) (by rw [bl_size, bl_size]) (bl_one _) ?_))
          have HB5 := Aside0.mk (below_setRow HB4.out (Nat.le_of_lt GC.out.1) (bl z))
          have H5 := Aside0.mk ((setRow_other w4 gc w.heap.size (bl z) (by have := GC.out; omega)).trans H4.out)
          have BC5 := Aside0.mk (setRow_heap w4 gc (bl 0) (bl z) 25 (0, 0) BC4.out)
          clear HB4 H4 BC4 hcb5
          generalize w4.setRow gc (bl z) = w5 at *
          clear w4
          go_loopw [32] (fun v32 wr => ∃ i : Nat, i ≤ n ∧ v32 = .int .i64 (i : Int) ∧ Aside0 (wr.heap[w.heap.size]? = some (.cells (bl (stepW x a z i)) 25 (0, 0))) ∧ Aside0 (wr.heap[gb]? = some (.cells #[.int .i64 (n : Int), .int .i64 v, .bool s] 56 (0, 0))) ∧ Aside0 (wr.heap[gc]? = some (.cells (bl z) 25 (0, 0))) ∧ Aside0 (Below w.heap.size w wr)) (fun v32 _ => (n - intOf v32).toNat)
          case atStart => exact ⟨0, by omega, rfl, ⟨by rw [show stepW x a z 0 = x by simp [stepW, Nat.mod_one]]; exact H5.out⟩, BK5, BC5, HB5⟩
          case round =>
            clear H5 BK5 BC5 HB5
            obtain ⟨i, hi, rfl, H6, BK6, BC6, HB6⟩ := hrel
            by_cases hlt2 : i < n
            · have hia : a + i < 64 := by omega
              have hci := (blk_cell BC6.out i).trans (bl_get _ i (by omega))
              have hco := (blk_cell H6.out (a + i)).trans (bl_get _ (a + i) hia)
              have hfo := blk_frozen H6.out (a + i)
              have hai : (a : Int) + (i : Int) = ((a + i : Nat) : Int) := by omega
              obtain ⟨p, hp⟩ : ∃ p, p = a + i := ⟨_, rfl⟩
              rw [← hp] at hia hco hfo hai
              have HPP := Aside0.mk hp
              clear hp
              go_wp2
              go_roundw
              case rel => exact ⟨i + 1, by omega, rfl, ⟨by have h := (blk_set H6.out p (.bool (z.testBit i))); rw [HPP.out, step_set x a z i HX.out (by have := HPP.out; omega)] at h; rw [HPP.out]; exact h⟩, ⟨blk_far BK6.out (by have := GE.out; show gb ≠ w.heap.size; omega) _⟩, ⟨blk_far BC6.out (by have := GC.out; show gc ≠ w.heap.size; omega) _⟩, ⟨HB6.out.setCell (by show w.heap.size ≤ w.heap.size; omega) _⟩⟩
              case measure => simp [intOf]; omega
            · obtain rfl : i = n := by omega
              have hcb6 := (blk_cell BK6.out 0).trans (show _ = some (Value.int .i64 (i : Int)) from rfl)
              go_wp2
              go_roundw
              case rel => exact ⟨j + 1, a + i, stepW x a z i, by omega, by omega, by go_num, rfl, ⟨put_lt x z a i HX.out⟩, ⟨HE.out.symm⟩, ⟨H6.out⟩, ⟨HB6.out⟩⟩
              case measure => simp [intOf]; omega
        · have hd : decide (64 - (a : Int) < b) = true := decide_eq_true (by omega)
          have HE := Aside0.mk (HPK.out.trans (if_neg (fun h => c h.2)))
          clear c
          go_wp2
          go_ret2
          exact ⟨by rw [HE.out]; rfl, HB2.out⟩
    · obtain rfl : j = l.length := by omega
      have HE := Aside0.mk (show some x = r by have := HP.out; rw [List.drop_length] at this; exact this)
      have HX2 := Aside0.mk (Nat.lt_of_lt_of_le HX.out (Nat.pow_le_pow_right (show 0 < 2 by decide) ha))
      go_wp2_with (first | (refine wpList_load_row rfl 25 (.tmp 4) rfl w.heap.size rfl 25 _ (0, 0) _ H0.out Try.underlying25 rfl (bl_info _) ?_))
      refine (Word_calls x HX2.out _).mono ?_
      rintro e w2 ⟨rfl, hb⟩
      have HB2 := Aside0.mk (below_step HB.out hb)
      clear hb
      go_wp2
      go_ret2
      exact ⟨by rw [← HE.out]; rfl, HB2.out⟩
end Go.Proofs.Ytjkllkbdmkkndaa.Pk
