/- Contract of the law's made: a disk behind calls. -/
import Derived.Test.YtnnkohddhiecoaaDkL
namespace Go.Proofs.Ytnnkohddhiecoaa.Dk
open Go Go.RowKit Go.Proofs.YtnnkohddhiecoaaW.PrintWords Go.Proofs.YtnnkohddhiecoaaW.PrintLast Go.Proofs.YtnnkohddhiecoaaW.PrintMore
open Go.Proofs.Ytnnkohddhiecoaa.PDiskBegins
attribute [local go_sem] max2_int min2_int max_two min_two
set_option linter.unusedVariables false
set_option linter.unusedSimpArgs false
theorem Rw.came {G : Nat → Prop} {k : IntKind} {w : World} {A : Option Addr} {c : Nat} {xs : List Int} (h : (Kd.int k).C w A xs.length xs) (hc : xs.length ≤ c) (hG : ∀ b, G b → w.heap.size ≤ b) : Rw G k w (.slice A xs.length c) xs :=
  Kd.V_mk hc (Kd.F_mono (Kd.C_F (Kd.heap_int k) h) (fun b hb hg => by have := hG b hg; omega))
theorem wrap_succ {i n : Nat} (h : i < n) (hn : n ≤ 9223372036854775807) : wrap64 ((i : Int) + 1) = ((i + 1 : Nat) : Int) := by
  unfold wrap64; omega
def toDd (x : S35) : Dd := ⟨x.f0, x.f1, x.f2, x.f3, x.f4⟩
def goP (s : DS) (l : List S35) : DS := l.foldl (fun s x => (doesP s (toDd x)).1) s
theorem goP_step (s : DS) (l : List S35) {i : Nat} (h : i < l.length) : goP s (l.take (i + 1)) = (doesP (goP s (l.take i)) (toDd (rd_T35 l (i : Int)))).1 := by
  unfold goP rd_T35
  rw [Int.toNat_natCast, List.take_add_one, List.getElem?_eq_getElem h, List.foldl_append, List.getD_eq_getElem?_getD, List.getElem?_eq_getElem h]
  rfl
theorem goP_okk {s : DS} (h : Okk s) : ∀ l : List S35, (∀ x ∈ l, (toDd x).ok) → Okk (goP s l) := by
  intro l
  induction l generalizing s with
  | nil => intro _; exact h
  | cons a l ih => intro hl; exact ih (h.does _ (hl a (List.mem_cons_self ..))) (fun x hx => hl x (List.mem_cons_of_mem _ hx))
theorem rd_mem {l : List S35} {i : Nat} (h : i < l.length) : rd_T35 l (i : Int) ∈ l := by
  unfold rd_T35
  rw [Int.toNat_natCast, List.getD_eq_getElem?_getD, List.getElem?_eq_getElem h]
  exact List.getElem_mem h
set_option maxHeartbeats 8000000 in
set_option maxRecDepth 100000 in
theorem made_calls (l : List S35) (A : Option Addr) (c : Nat) (w : World) (hC : k35.C w A l.length l) (hc : l.length ≤ c) (hl : ∀ x ∈ l, (toDd x).ok) :
    Calls Try.prog 24 #[.slice A l.length c] w fun e w' => ∃ b, e = .returned (.pointer (some ⟨b, 0, none⟩)) ∧ w.heap.size ≤ b ∧ Below w.heap.size w w' ∧ IsD (fun k => k < w.heap.size ∨ k = b) w' b (goP (newP 2097152) l) := by
  have HC := Aside0.mk hC
  have HL := Aside0.mk hl
  have HN := Aside0.mk (newP_okk 2097152 (by decide))
  have HM := Aside0.mk (Kd.C_max hC)
  have HE := Aside0.mk (show goP (newP 2097152) (l.take l.length) = goP (newP 2097152) l by rw [List.take_length])
  have HSZ : (0 : Int) ≤ (l.length : Int) := by omega
  clear hC hl hc
  go_enter Try.func24, Try.ntmps24
  go_wp2_with (fail)
  refine (New_calls 2097152 w (by decide) (by decide)).mono ?_
  rintro e w1 ⟨b, rfl, hb, hb1, hB, hI⟩
  have HG := Aside0.mk hb
  have HI := Aside0.mk (hI (fun k => k < w.heap.size ∨ k = b) (fun k hk => hk.elim (fun h => Nat.lt_of_lt_of_le h hB.size) (fun e => e ▸ hb1)) (.inr rfl))
  have HB := Aside0.mk hB
  clear hb hb1 hB hI
  go_wp2_with (fail)
  go_loopw [13] (fun v13 wr => ∃ i : Nat, i ≤ l.length ∧ v13 = .int .i64 (i : Int) ∧ Aside0 (IsD (fun k => k < w.heap.size ∨ k = b) wr b (goP (newP 2097152) (l.take i))) ∧ Aside0 (Below w.heap.size w wr)) (fun v13 _ => (l.length - intOf v13).toNat)
  case atStart => exact ⟨0, by omega, rfl, HI, HB⟩
  case round =>
    obtain ⟨i, hi, rfl, H, HW⟩ := hrel
    clear HI HB
    by_cases hlt : i < l.length
    · obtain ⟨ad, A3, c3, A4, c4, e1, h0, h1, h2, h3, h4, l3, g3, l4, g4⟩ := at_T35 HC.out (i : Int) (by omega) (by omega)
      cases e1
      rw [Int.toNat_natCast] at h0 h1 h2 h3 h4
      have HST := Aside0.mk (goP_step (newP 2097152) l hlt)
      have HO := Aside0.mk (HL.out _ (rd_mem hlt))
      have HOK := Aside0.mk (goP_okk HN.out (l.take i) (fun x hx => HL.out x (List.mem_of_mem_take hx)))
      have r3 := (Rw.came (G := fun k => k = b) g3 l3 (fun k hk => hk ▸ HG.out)).below HW.out
      have r4 := (Rw.came (G := fun k => k = b) g4 l4 (fun k hk => hk ▸ HG.out)).below HW.out
      have HR3 := Aside0.mk r3
      have HR4 := Aside0.mk r4
      replace h0 := (HW.out.cell (World.block_lt_of_cell? w _ h0)).trans h0
      replace h1 := (HW.out.cell (World.block_lt_of_cell? w _ h1)).trans h1
      replace h2 := (HW.out.cell (World.block_lt_of_cell? w _ h2)).trans h2
      replace h3 := (HW.out.cell (World.block_lt_of_cell? w _ h3)).trans h3
      replace h4 := (HW.out.cell (World.block_lt_of_cell? w _ h4)).trans h4
      clear g3 g4 r3 r4 l3 l4
      generalize rd_T35 l (i : Int) = x at *
      go_wp2_with (fail)
      refine (does_calls _ b _ (toDd x) _ _ _ (H.out.al _) HOK.out HO.out (HR3.out.below (below_alloc (Below.refl _ _) _)) (HR4.out.below (below_alloc (Below.refl _ _) _))).mono ?_
      rintro e w2 ⟨rfl, hI, hW⟩
      rw [← HST.out] at hI
      have HI := Aside0.mk hI
      have HWF := Aside0.mk (hW.below (below_alloc HW.out _) HG.out)
      clear hI hW h0 h1 h2 h3 h4
      generalize (doesP (goP (newP 2097152) (l.take i)) (toDd x)).2 = er
      go_wp2_with (fail)
      go_roundw
      case rel => exact ⟨i + 1, by omega, by rw [wrap_succ hlt HM.out], HI, HWF⟩
      case measure =>
        rw [wrap_succ hlt HM.out]
        simp [intOf]; omega
    · obtain rfl : i = l.length := by omega
      rw [HE.out] at H
      go_wp2_with (fail)
      go_ret
      exact ⟨b, rfl, HG.out, HW.out, H.out⟩
end Go.Proofs.Ytnnkohddhiecoaa.Dk
