/- Contracts of the calls of a disk that is not there. -/
import Derived.Test.YtnnkohddhiecoaaDkZ
namespace Go.Proofs.Ytnnkohddhiecoaa.Dk
open Go Go.RowKit Go.Proofs.YtnnkohddhiecoaaW.PrintWords Go.Proofs.YtnnkohddhiecoaaW.PrintLast Go.Proofs.YtnnkohddhiecoaaW.PrintMore
open Go.Proofs.Ytnnkohddhiecoaa.PDiskBegins
attribute [local go_sem] max2_int min2_int max_two min_two
set_option linter.unusedVariables false
set_option linter.unusedSimpArgs false
set_option maxHeartbeats 8000000 in
set_option maxRecDepth 100000 in
theorem able_nil (i : Int) (w : World) : Calls Try.prog 41 #[.pointer none, .int .i64 i] w fun e w' => e = .returned (.int .i64 6) ∧ Below w.heap.size w w' := by
  go_enter Try.func41, Try.ntmps41
  go_wp2_with (fail)
  go_ret
  exact ⟨rfl, Below.refl _ _⟩
set_option maxHeartbeats 8000000 in
set_option maxRecDepth 100000 in
theorem Used_nil (w : World) : Calls Try.prog 19 #[.pointer none] w fun e w' => e = .returned (.int .i64 0) ∧ Below w.heap.size w w' := by
  go_enter Try.func19, Try.ntmps19
  go_wp2_with (fail)
  go_ret
  exact ⟨rfl, Below.refl _ _⟩
set_option maxHeartbeats 8000000 in
set_option maxRecDepth 100000 in
theorem Start_nil (w : World) : Calls Try.prog 25 #[.pointer none] w fun e w' => e = .returned (.int .i64 6) ∧ Below w.heap.size w w' := by
  go_enter Try.func25, Try.ntmps25
  go_wp2_with (fail)
  go_ret
  exact ⟨rfl, Below.refl _ _⟩
set_option maxHeartbeats 8000000 in
set_option maxRecDepth 100000 in
theorem Clone_nil (w : World) : Calls Try.prog 30 #[.pointer none] w fun e w' => e = .returned (.pointer none) ∧ Below w.heap.size w w' := by
  go_enter Try.func30, Try.ntmps30
  go_wp2_with (fail)
  go_ret
  exact ⟨rfl, Below.refl _ _⟩
set_option maxHeartbeats 8000000 in
set_option maxRecDepth 100000 in
theorem Read_nil (i : Int) (w : World) : Calls Try.prog 21 #[.pointer none, .int .i64 i] w fun e w' => e = .returned (.tuple #[.slice none 0 0, .int .i64 6]) ∧ Below w.heap.size w w' := by
  go_enter Try.func21, Try.ntmps21
  go_wp2_with (fail)
  refine (able_nil i _).mono ?_
  rintro e w1 ⟨rfl, hb⟩
  have HB := Aside0.mk hb
  clear hb
  go_wp2_with (fail)
  go_ret2
  exact ⟨rfl, HB.out⟩
set_option maxHeartbeats 8000000 in
set_option maxRecDepth 100000 in
theorem Clear_nil (i : Int) (w : World) : Calls Try.prog 35 #[.pointer none, .int .i64 i] w fun e w' => e = .returned (.int .i64 6) ∧ Below w.heap.size w w' := by
  go_enter Try.func35, Try.ntmps35
  go_wp2_with (fail)
  refine (able_nil i _).mono ?_
  rintro e w1 ⟨rfl, hb⟩
  have HB := Aside0.mk hb
  clear hb
  go_wp2_with (fail)
  go_ret
  exact ⟨rfl, below_step (below_alloc (below_alloc (Below.refl _ _) _) _) HB.out⟩
set_option maxHeartbeats 8000000 in
set_option maxRecDepth 100000 in
theorem Sync_nil (i : Int) (w : World) : Calls Try.prog 27 #[.pointer none, .int .i64 i] w fun e w' => e = .returned (.int .i64 6) ∧ Below w.heap.size w w' := by
  go_enter Try.func27, Try.ntmps27
  go_wp2_with (fail)
  refine (able_nil i _).mono ?_
  rintro e w1 ⟨rfl, hb⟩
  have HB := Aside0.mk hb
  clear hb
  go_wp2_with (fail)
  go_ret
  exact ⟨rfl, below_step (below_alloc (below_alloc (Below.refl _ _) _) _) HB.out⟩
set_option maxHeartbeats 8000000 in
set_option maxRecDepth 100000 in
theorem Crash_nil (A : Option Addr) (n c : Nat) (w : World) : Calls Try.prog 28 #[.pointer none, .slice A n c] w fun e w' => e = .returned (.int .i64 6) ∧ Below w.heap.size w w' := by
  go_enter Try.func28, Try.ntmps28
  go_wp2_with (fail)
  refine (able_nil 0 _).mono ?_
  rintro e w1 ⟨rfl, hb⟩
  have HB := Aside0.mk hb
  clear hb
  go_wp2_with (fail)
  go_ret
  exact ⟨rfl, below_step (Below.refl _ _) HB.out⟩
set_option maxHeartbeats 8000000 in
set_option maxRecDepth 100000 in
theorem Arm_nil (m : Int) (A : Option Addr) (n c : Nat) (w : World) : Calls Try.prog 32 #[.pointer none, .int .i64 m, .slice A n c] w fun e w' => e = .returned (.int .i64 6) ∧ Below w.heap.size w w' := by
  go_enter Try.func32, Try.ntmps32
  go_wp2_with (fail)
  refine (able_nil 0 _).mono ?_
  rintro e w1 ⟨rfl, hb⟩
  have HB := Aside0.mk hb
  clear hb
  go_wp2_with (fail)
  go_ret
  exact ⟨rfl, below_step (Below.refl _ _) HB.out⟩
set_option maxHeartbeats 8000000 in
set_option maxRecDepth 100000 in
theorem Append_nil (i : Int) (A : Option Addr) (n c : Nat) (w : World) : Calls Try.prog 33 #[.pointer none, .int .i64 i, .slice A n c] w fun e w' => e = .returned (.int .i64 6) ∧ Below w.heap.size w w' := by
  go_enter Try.func33, Try.ntmps33
  go_wp2_with (fail)
  refine (able_nil i _).mono ?_
  rintro e w1 ⟨rfl, hb⟩
  have HB := Aside0.mk hb
  clear hb
  go_wp2_with (fail)
  go_ret
  exact ⟨rfl, below_step (below_alloc (below_alloc (below_alloc (Below.refl _ _) _) _) _) HB.out⟩
set_option maxHeartbeats 8000000 in
set_option maxRecDepth 100000 in
theorem does_nil (op i n : Int) (A : Option Addr) (m ca : Nat) (B : Option Addr) (p cb : Nat) (w : World) :
    Calls Try.prog 17 #[.pointer none, .agg #[.int .i64 op, .int .i64 i, .int .i64 n, .slice A m ca, .slice B p cb]] w fun e w' => e = .returned (.int .i64 6) ∧ Below w.heap.size w w' := by
  have HB := Aside0.mk (below_alloc (Below.refl w.heap.size w) (.cells #[.int .i64 op, .int .i64 i, .int .i64 n, .slice A m ca, .slice B p cb] 35))
  have hkd := kind_wrap op
  generalize kind op = q at hkd
  by_cases c4 : q = 4
  · rw [c4] at hkd
    have t4 : (wrap64 ((IntKind.u64.wrap op).tmod 9) == 4) = true := by rw [hkd]; decide
    clear hkd c4
    go_enter Try.func17, Try.ntmps17
    go_wp2_with (fail)
    refine (Clear_nil i _).mono ?_
    rintro e w1 ⟨rfl, hb⟩
    have HB2 := Aside0.mk (below_step HB.out hb)
    clear hb
    go_wp2_with (fail)
    go_ret
    exact ⟨rfl, HB2.out⟩
  by_cases c5 : q = 5
  · rw [c5] at hkd
    have t4 : (wrap64 ((IntKind.u64.wrap op).tmod 9) == 4) = false := by rw [hkd]; decide
    have t5 : (wrap64 ((IntKind.u64.wrap op).tmod 9) == 5) = true := by rw [hkd]; decide
    clear hkd c4 c5
    go_enter Try.func17, Try.ntmps17
    go_wp2_with (fail)
    refine (Sync_nil i _).mono ?_
    rintro e w1 ⟨rfl, hb⟩
    have HB2 := Aside0.mk (below_step HB.out hb)
    clear hb
    go_wp2_with (fail)
    go_ret
    exact ⟨rfl, HB2.out⟩
  by_cases c6 : q = 6
  · rw [c6] at hkd
    have t4 : (wrap64 ((IntKind.u64.wrap op).tmod 9) == 4) = false := by rw [hkd]; decide
    have t5 : (wrap64 ((IntKind.u64.wrap op).tmod 9) == 5) = false := by rw [hkd]; decide
    have t6 : (wrap64 ((IntKind.u64.wrap op).tmod 9) == 6) = true := by rw [hkd]; decide
    clear hkd c4 c5 c6
    go_enter Try.func17, Try.ntmps17
    go_wp2_with (fail)
    refine (Crash_nil B p cb _).mono ?_
    rintro e w1 ⟨rfl, hb⟩
    have HB2 := Aside0.mk (below_step HB.out hb)
    clear hb
    go_wp2_with (fail)
    go_ret
    exact ⟨rfl, HB2.out⟩
  by_cases c7 : q = 7
  · rw [c7] at hkd
    have t4 : (wrap64 ((IntKind.u64.wrap op).tmod 9) == 4) = false := by rw [hkd]; decide
    have t5 : (wrap64 ((IntKind.u64.wrap op).tmod 9) == 5) = false := by rw [hkd]; decide
    have t6 : (wrap64 ((IntKind.u64.wrap op).tmod 9) == 6) = false := by rw [hkd]; decide
    have t7 : (wrap64 ((IntKind.u64.wrap op).tmod 9) == 7) = true := by rw [hkd]; decide
    clear hkd c4 c5 c6 c7
    go_enter Try.func17, Try.ntmps17
    go_wp2_with (fail)
    refine (Start_nil _).mono ?_
    rintro e w1 ⟨rfl, hb⟩
    have HB2 := Aside0.mk (below_step HB.out hb)
    clear hb
    go_wp2_with (fail)
    go_ret
    exact ⟨rfl, HB2.out⟩
  by_cases c8 : q = 8
  · rw [c8] at hkd
    have t4 : (wrap64 ((IntKind.u64.wrap op).tmod 9) == 4) = false := by rw [hkd]; decide
    have t5 : (wrap64 ((IntKind.u64.wrap op).tmod 9) == 5) = false := by rw [hkd]; decide
    have t6 : (wrap64 ((IntKind.u64.wrap op).tmod 9) == 6) = false := by rw [hkd]; decide
    have t7 : (wrap64 ((IntKind.u64.wrap op).tmod 9) == 7) = false := by rw [hkd]; decide
    have t8 : (wrap64 ((IntKind.u64.wrap op).tmod 9) == 8) = true := by rw [hkd]; decide
    clear hkd c4 c5 c6 c7 c8
    go_enter Try.func17, Try.ntmps17
    go_wp2_with (fail)
    refine (Arm_nil n B p cb _).mono ?_
    rintro e w1 ⟨rfl, hb⟩
    have HB2 := Aside0.mk (below_step HB.out hb)
    clear hb
    go_wp2_with (fail)
    go_ret
    exact ⟨rfl, HB2.out⟩
  have t4 : (wrap64 ((IntKind.u64.wrap op).tmod 9) == 4) = false := by rw [hkd]; simpa using c4
  have t5 : (wrap64 ((IntKind.u64.wrap op).tmod 9) == 5) = false := by rw [hkd]; simpa using c5
  have t6 : (wrap64 ((IntKind.u64.wrap op).tmod 9) == 6) = false := by rw [hkd]; simpa using c6
  have t7 : (wrap64 ((IntKind.u64.wrap op).tmod 9) == 7) = false := by rw [hkd]; simpa using c7
  have t8 : (wrap64 ((IntKind.u64.wrap op).tmod 9) == 8) = false := by rw [hkd]; simpa using c8
  clear hkd c4 c5 c6 c7 c8
  go_enter Try.func17, Try.ntmps17
  go_wp2_with (fail)
  refine (Append_nil i A m ca _).mono ?_
  rintro e w1 ⟨rfl, hb⟩
  have HB2 := Aside0.mk (below_step HB.out hb)
  clear hb
  go_wp2_with (fail)
  go_ret
  exact ⟨rfl, HB2.out⟩
/-! ### a disk with no room -/
theorem able_none {s : DS} (hr : s.room = 0) (i : Int) : ableP s i = 6 := by unfold ableP; rw [if_pos hr]
theorem does_none {s : DS} (hr : s.room = 0) (k : Dd) : doesP s k = (s, 6) := by
  have h := able_none hr
  unfold doesP clearP syncP crashP startP armP appendP
  rw [h, h, if_pos hr]
  simp
theorem read_none {s : DS} (hr : s.room = 0) (i : Int) : readP s i = ([], 6) := by
  unfold readP
  rw [able_none hr, if_pos (by decide)]
theorem zero_okk : Okk (newP 0) := newP_okk 0 (by decide)
end Go.Proofs.Ytnnkohddhiecoaa.Dk
