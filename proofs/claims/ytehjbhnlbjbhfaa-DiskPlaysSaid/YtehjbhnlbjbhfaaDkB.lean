/- Contracts of the disk's small functions. -/
import Derived.Test.YtehjbhnlbjbhfaaDkA
namespace Go.Proofs.Ytehjbhnlbjbhfaa.Dk
open Go Go.RowKit Go.Proofs.YtehjbhnlbjbhfaaW.PrintWords Go.Proofs.YtehjbhnlbjbhfaaW.PrintLast Go.Proofs.YtehjbhnlbjbhfaaW.PrintMore
open Go.Proofs.Ytehjbhnlbjbhfaa.PDiskBegins
attribute [local go_sem] max2_int min2_int max_two min_two
set_option linter.unusedVariables false
theorem Drawn0.of0 (w : World) : Drawn0 w w := ⟨⟨0, rfl⟩⟩
set_option maxHeartbeats 2000000 in
theorem able_calls (G : Nat → Prop) (g : Nat) (s : DS) (i : Int) (w : World) (h : IsD G w g s) : Calls Try.prog 58 #[.pointer (some ⟨g, 0, none⟩), .int .i64 i] w fun e w' => e = .returned (.int .i64 (ableP s i)) ∧ Drawn0 w w' := by
  obtain ⟨_, _, d, hA, hR⟩ := h
  have hc27 := hA.c27
  have hc28 := hA.c28
  have HAB := Aside0.mk (show ableP s i = if d.room = 0 then 6 else if d.off = true then 50 else if i < 0 ∨ 8 ≤ i then 51 else 0 by unfold ableP; rw [hR.2.2.2.1, hR.2.2.2.2.1])
  clear hA hR
  rw [HAB.out]
  by_cases c1 : d.room = 0
  · rw [if_pos c1]
    rw [c1] at hc27
    clear c1 HAB
    go_enter Try.func58, Try.ntmps58
    go_wp2
    go_ret
    exact ⟨rfl, Drawn0.refl _⟩
  · rw [if_neg c1]
    have d1 : (d.room == (0 : Int)) = false := by simpa using c1
    clear HAB
    by_cases c2 : d.off = true
    · rw [if_pos c2]
      rw [c2] at hc28
      clear c1 c2
      go_enter Try.func58, Try.ntmps58
      go_wp2
      go_ret
      exact ⟨rfl, Drawn0.refl _⟩
    · rw [if_neg c2]
      have c2' : d.off = false := by simpa using c2
      rw [c2'] at hc28
      clear c2 c2' c1
      by_cases c3 : i < 0
      · rw [if_pos (.inl c3)]
        have d3 : decide (i < 0) = true := decide_eq_true c3
        go_enter Try.func58, Try.ntmps58
        go_wp2
        go_ret
        exact ⟨rfl, Drawn0.refl _⟩
      · have d3 : decide (i < 0) = false := decide_eq_false c3
        by_cases c4 : 8 ≤ i
        · rw [if_pos (.inr c4)]
          have d4 : decide (8 ≤ i) = true := decide_eq_true c4
          go_enter Try.func58, Try.ntmps58
          go_wp2
          go_ret
          exact ⟨rfl, Drawn0.refl _⟩
        · rw [if_neg (by omega)]
          have d4 : decide (8 ≤ i) = false := decide_eq_false c4
          go_enter Try.func58, Try.ntmps58
          go_wp2
          go_ret
          exact ⟨rfl, Drawn0.refl _⟩
theorem Clone_b (A0 : Option Addr) (c0 : Nat) (l0 : List Int) (w : World) (hr0 : Kd.C (Kd.int .u8) w A0 l0.length l0) (hc0 : l0.length ≤ c0) (hl : l0.length < 140737488355328) :
    Calls Try.prog 14 #[.slice A0 l0.length c0] w fun e w' => ∃ v0_ : Value, e = .returned (v0_) ∧ Kd.R (Kd.int .u8) 5 w' w.heap.size (fun _ => True) v0_ l0 ∧ Below w.heap.size w w' :=
  slices_Clone_byte_byte.calls A0 c0 l0 l0 w hr0 hc0 (by unfold slices_Clone_byte_byte.f; rw [if_pos hl])
theorem Clone_i (A0 : Option Addr) (c0 : Nat) (l0 : List Int) (w : World) (hr0 : Kd.C (Kd.int .i64) w A0 l0.length l0) (hc0 : l0.length ≤ c0) (hl : l0.length < 17592186044416) :
    Calls Try.prog 15 #[.slice A0 l0.length c0] w fun e w' => ∃ v0_ : Value, e = .returned (v0_) ∧ Kd.R (Kd.int .i64) 3 w' w.heap.size (fun _ => True) v0_ l0 ∧ Below w.heap.size w w' :=
  slices_Clone_int_int.calls A0 c0 l0 l0 w hr0 hc0 (by unfold slices_Clone_int_int.f; rw [if_pos hl])
theorem able_cases (s : DS) (i : Int) : (ableP s i ≠ 0) ∨ (ableP s i = 0 ∧ ∃ j : Nat, j < 8 ∧ i = (j : Int) ∧ s.room ≠ 0 ∧ s.off = false) := by
  unfold ableP
  by_cases c1 : s.room = 0
  · rw [if_pos c1]; exact .inl (by decide)
  · rw [if_neg c1]
    by_cases c2 : s.off = true
    · rw [if_pos c2]; exact .inl (by decide)
    · rw [if_neg c2]
      by_cases c3 : i < 0 ∨ 8 ≤ i
      · rw [if_pos c3]; exact .inl (by decide)
      · rw [if_neg c3]; exact .inr ⟨rfl, i.toNat, by omega, by omega, c1, by simpa using c2⟩
theorem Ok.fl_mem {s : DS} (h : Ok s) {i : Nat} (hi : i < 8) : fl s i ∈ s.fs := by
  unfold fl
  rw [List.getD_eq_getElem?_getD, List.getElem?_eq_getElem (by rw [h.len]; exact hi)]
  exact List.getElem_mem _
theorem sum_mem : ∀ (l : List Nat) (x : Nat), x ∈ l → x ≤ l.sum := by
  intro l
  induction l with
  | nil => intro x h; cases h
  | cons a l ih =>
    intro x h
    rw [List.sum_cons]
    rcases List.mem_cons.1 h with h | h
    · omega
    · have := ih x h; omega
theorem Ok.seen_le {s : DS} (h : Ok s) {i : Nat} (hi : i < 8) : (fl s i).seen.length ≤ 4194304 := h.told _ (h.fl_mem hi)
set_option maxHeartbeats 2000000 in
theorem Read_calls (G : Nat → Prop) (g : Nat) (s : DS) (i : Int) (w : World) (h : IsD G w g s) (hok : Ok s) : Calls Try.prog 20 #[.pointer (some ⟨g, 0, none⟩), .int .i64 i] w fun e w' => ∃ v, e = .returned (.tuple #[v, .int .i64 (readP s i).2]) ∧ Kd.R (Kd.int .u8) 5 w' w.heap.size (fun _ => True) v (readP s i).1 ∧ Below w.heap.size w w' := by
  have H := Aside0.mk h
  have HAB := Aside0.mk (able_calls G g s i w h)
  rcases able_cases s i with c | ⟨c, j, hj, rfl, _, _⟩
  · have HR := Aside0.mk (show readP s i = ([], ableP s i) by unfold readP; rw [if_pos c])
    have c1 : (ableP s i != (0 : Int)) = true := by simpa using c
    have c2 : (ableP s i == (0 : Int)) = false := by simpa using c
    rw [HR.out]
    clear h c HR
    generalize ableP s i = er at *
    go_enter Try.func20, Try.ntmps20
    go_wp2_with (fail)
    refine (HAB.out).mono ?_
    rintro e w1 ⟨rfl, hd⟩
    have HD := Aside0.mk hd
    clear hd
    go_wp2
    go_ret2
    exact ⟨_, rfl, Kd.R_nil _ _ _ _ _, HD.out.below⟩
  · have HR := Aside0.mk (show readP s (j : Int) = ((fl s j).seen, 0) by unfold readP; rw [if_neg (by rw [c]; decide), Int.toNat_natCast])
    rw [c] at HAB
    rw [HR.out]
    obtain ⟨_, _, d, hA, hR⟩ := h
    obtain ⟨A, cp, hv, hcp, hC⟩ := (hR.2.2.2.2.2.2 j hj).1.slice
    have hsv := hA.sv hj
    rw [hv] at hsv
    have HC := Aside0.mk (And.intro hcp hC)
    have HL := Aside0.mk (hok.seen_le hj)
    clear hA hR hv hcp hC c HR hok
    go_enter Try.func20, Try.ntmps20
    go_wp2_with (fail)
    refine (HAB.out).mono ?_
    rintro e w1 ⟨rfl, hd⟩
    obtain ⟨nd, rfl⟩ := hd
    go_wp2_with (fail)
    refine (Clone_b A cp _ _ (Kd.C_drewN HC.out.2 nd) HC.out.1 (by have := HL.out; omega)).mono ?_
    rintro e w2 ⟨v, rfl, hR2, hB2⟩
    have HR2 := Aside0.mk hR2
    have HB2 := Aside0.mk hB2
    clear hR2 hB2
    go_wp2
    go_ret2
    exact ⟨_, rfl, Kd.R_lower HR2.out (Nat.le_refl _), below_step (pw_below_drewN (Below.refl _ _) nd) HB2.out⟩
set_option maxHeartbeats 2000000 in
theorem Start_calls (G : Nat → Prop) (g : Nat) (s : DS) (w : World) (h : IsD G w g s) : Calls Try.prog 53 #[.pointer (some ⟨g, 0, none⟩)] w fun e w' => e = .returned (.int .i64 (startP s).2) ∧ IsD G w' g (startP s).1 ∧ Wr g w w' := by
  have H := Aside0.mk h
  obtain ⟨_, _, d, hA, hR⟩ := h
  have HA := Aside0.mk hA
  have HR := Aside0.mk hR
  have hc27 := hA.c27
  have hc28 := hA.c28
  have hf28 := hA.frozen 28
  have hrm := hR.2.2.2.1
  clear hA hR
  by_cases c1 : s.room = 0
  · have HS := Aside0.mk (show startP s = (s, 6) by unfold startP; rw [if_pos c1])
    rw [HS.out]
    rw [hrm, c1] at hc27
    clear c1 hrm HS
    go_enter Try.func53, Try.ntmps53
    go_wp2
    go_ret
    exact ⟨rfl, H.out, Wr.refl _ _⟩
  · have HS := Aside0.mk (show startP s = ({ s with off := false }, 0) by unfold startP; rw [if_neg c1])
    rw [HS.out]
    rw [hrm] at hc27
    have d1 : (s.room == (0 : Int)) = false := by simpa using c1
    clear c1 hrm HS
    go_enter Try.func53, Try.ntmps53
    go_wp2
    go_ret
    refine ⟨rfl, ?_, (Wr.refl g w).set 28 _⟩
    have hw := (Wr.refl g w).set 28 (.bool false)
    refine ⟨fun b hb => by simpa using H.out.lt b hb, H.out.gg, _, HA.out.set28 false, ?_⟩
    have := HR.out.wr hw H.out.gg
    exact ⟨this.1, this.2.1, this.2.2.1, this.2.2.2.1, rfl, this.2.2.2.2.2.1, this.2.2.2.2.2.2⟩
set_option maxHeartbeats 2000000 in
/-- burn: how much is done. -/
theorem burn_calls (G : Nat → Prop) (g : Nat) (s : DS) (n : Nat) (w : World) (h : IsD G w g s) (hok : Ok s) (hn : n < 1000000000) : Calls Try.prog 83 #[.pointer (some ⟨g, 0, none⟩), .int .i64 (n : Int)] w fun e w' => e = .returned (.int .i64 ((burnN s n : Nat) : Int)) ∧ IsD G w' g (burnS s n) ∧ Wr g w w' := by
  have H := Aside0.mk h
  obtain ⟨_, _, d, hA, hR⟩ := h
  have HA := Aside0.mk hA
  have HR := Aside0.mk hR
  have hc0 := hA.c0
  have hc1 := hA.c1
  have hf1 := hA.frozen 1
  rw [hR.1] at hc0
  rw [hR.2.1] at hc1
  have HF := Aside0.mk hok.fuse
  clear hA hR hok
  by_cases c1 : s.set = true
  · rw [c1] at hc0
    have hf := HF.out c1
    by_cases c2 : (n : Int) < s.left
    · have HN := Aside0.mk (show burnN s n = n by unfold burnN; rw [if_neg (by omega)])
      have HS := Aside0.mk (show burnS s n = { s with left := s.left - n } by unfold burnS; rw [if_pos ⟨c1, c2⟩])
      rw [HN.out, HS.out]
      have hw : wrap64 (s.left - (n : Int)) = s.left - (n : Int) := by unfold wrap64; omega
      have d2 : decide ((n : Int) < s.left) = true := decide_eq_true c2
      clear c1 c2 hf hn
      go_enter Try.func83, Try.ntmps83
      go_wp2
      go_ret
      refine ⟨rfl, ?_, (Wr.refl g w).set 1 _⟩
      have hwr := (Wr.refl g w).set 1 (.int .i64 (s.left - (n : Int)))
      refine ⟨fun b hb => by simpa using H.out.lt b hb, H.out.gg, _, HA.out.set1 _, ?_⟩
      have := HR.out.wr hwr H.out.gg
      exact ⟨this.1, rfl, this.2.2.1, this.2.2.2.1, this.2.2.2.2.1, this.2.2.2.2.2.1, this.2.2.2.2.2.2⟩
    · obtain ⟨m, hm⟩ : ∃ m : Nat, s.left = (m : Int) := Int.eq_ofNat_of_zero_le (by omega)
      have HN := Aside0.mk (show burnN s n = m by unfold burnN; rw [if_pos ⟨c1, by omega⟩, hm, Int.toNat_natCast])
      have HS := Aside0.mk (show burnS s n = s by unfold burnS; rw [if_neg (by omega)])
      rw [HN.out, HS.out]
      rw [hm] at hc1
      have d2 : decide ((n : Int) < (m : Int)) = false := decide_eq_false (by omega)
      have d3 : decide (n < m) = false := decide_eq_false (by omega)
      clear c1 c2 hf hm
      go_enter Try.func83, Try.ntmps83
      go_wp2
      go_ret
      exact ⟨rfl, H.out, Wr.refl _ _⟩
  · have c1' : s.set = false := by simpa using c1
    have HN := Aside0.mk (show burnN s n = n by unfold burnN; rw [if_neg (fun h => c1 h.1)])
    have HS := Aside0.mk (show burnS s n = s by unfold burnS; rw [if_neg (fun h => c1 h.1)])
    rw [HN.out, HS.out]
    rw [c1'] at hc0
    clear c1 c1'
    go_enter Try.func83, Try.ntmps83
    go_wp2
    go_ret
    exact ⟨rfl, H.out, Wr.refl _ _⟩
end Go.Proofs.Ytehjbhnlbjbhfaa.Dk
