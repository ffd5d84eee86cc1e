/- slices.Clone of calls: the calls' own rows are shared. -/
import Derived.Test.YtnnkohddhiecoaaDkNil
import Derived.Lib.SliceRun
namespace Go.Proofs.Ytnnkohddhiecoaa.Dk
open Go Go.RowKit Go.Proofs.YtnnkohddhiecoaaW.PrintWords Go.Proofs.YtnnkohddhiecoaaW.PrintLast Go.Proofs.YtnnkohddhiecoaaW.PrintMore
open Go.Proofs.Ytnnkohddhiecoaa.PDiskBegins
attribute [local go_sem] max2_int min2_int max_two min_two
set_option linter.unusedVariables false
set_option linter.unusedSimpArgs false
theorem info35 : (Try.prog.info? 35).map (fun i => (i.zero, i.size, i.bytes)) = some (some (.agg #[.int .i64 0, .int .i64 0, .int .i64 0, .slice none 0 0, .slice none 0 0]), 5, 72) := by kernel_rfl
theorem heap35 : Kd.Heap k35 := Kd.heap_iso _ (Kd.heap_pair (Kd.heap_int _) (Kd.heap_pair (Kd.heap_int _) (Kd.heap_pair (Kd.heap_int _) (Kd.heap_pair (Kd.heap_slice _ (Kd.heap_int _)) (Kd.heap_slice _ (Kd.heap_int _))))))
set_option maxHeartbeats 8000000 in
set_option maxRecDepth 100000 in
theorem CloneD (ad : Option Addr) (c0 : Nat) (l0 : List S35) (w : World) (hr0 : k35.C w ad l0.length l0) (hc0 : l0.length ≤ c0) (hl : l0.length < 1000000000) :
    Calls Try.prog 34 #[.slice ad l0.length c0] w fun e w' => ∃ v : Value, e = .returned v ∧ Kd.N k35 35 w' w.heap.size (fun _ => True) v l0 ∧ Below w.heap.size w w' := by
  have LM := Aside0.mk hl
  have HR0 := Aside0.mk hr0
  have HF0 := Aside0.mk (Kd.C_F heap35 hr0)
  have HC0 := Aside0.mk hc0
  clear hr0 hc0 hl
  have HB := Aside0.mk (Below.refl w.heap.size w)
  cases ad with
  | none =>
    have hn : l0 = [] := by
      cases l0 with
      | nil => rfl
      | cons a_ b_ => obtain ⟨ad, c, e, _⟩ := Kd.C_get HR0.out z35 0 (by decide) (by simp); cases e
    subst hn
    have heq : ∀ W : World, (binOp .eql 22 (.slice none ([] : List S35).length c0) (.slice none 0 0)).run Try.prog W = .ok (.bool true) W := fun W => Lib.run_eql_slice_nil W 22 35 none _ _ _ _ Try.underlying22
    have heq2 : ∀ W : World, (binOp .eql 22 (.slice none 0 c0) (.slice none 0 0)).run Try.prog W = .ok (.bool true) W := fun W => Lib.run_eql_slice_nil W 22 35 none _ _ _ _ Try.underlying22
    go_enter Try.func34, Try.ntmps34
    go_wp2
    go_ret
    exact ⟨_, rfl, Kd.N_nil _ _ _ _ _, HB.out⟩
  | some ad =>
    have heq : ∀ W : World, (binOp .eql 22 (.slice (some ad) l0.length c0) (.slice none 0 0)).run Try.prog W = .ok (.bool false) W := fun W => Lib.run_eql_slice_nil W 22 35 (some ad) _ _ _ _ Try.underlying22
    obtain ⟨y1, Ny1⟩ : ∃ y_ : List S35, Aside0 (y_ = ([] : List S35)) := ⟨_, ⟨rfl⟩⟩
    have LM2 := Aside0.mk (show y1.length + l0.length < 1000000000 by have := LM.out; rw [Ny1.out]; simpa using this)
    have Ny2 := Aside0.mk (show l0 = y1 ++ l0 by rw [Ny1.out]; rfl)
    go_enter Try.func34, Try.ntmps34
    go_wp2_with (first | ((with_reducible refine gate_dst (N := 5) rfl ?_); refine Kd.N_lit k35 _ 35 ?hg (N' := 5) ?hd (xs := ([] : List S35)) (inner := []) (ok := fun _ => True) (okp := fun _ => True) ?hr ?hp (fun _ hk => hk) trivial (Below.refl _ _) (Nat.le_refl _) (by simp) ?_; (case hd => rfl); (case hg => rfl); (case hr => first | (go_simp; done) | (go_simp; rfl)); (case hp => exact (Reps.none _ _)); intro va w4 ho5 hb hg_ hnew_; clear hg_ hnew_; (first | rw [← Ny1.out] at ho5 | (simp only [Int.reduceToNat] at ho5; rw [← Ny1.out] at ho5)); have n0_ := Aside0.mk ho5; have n1_ := Aside0.mk (below_step HB.out hb); clear HB; have HOa := n0_; have HB := n1_; clear n0_ n1_; clear hb ho5) | ((with_reducible refine gate_builtin (b := .append) (xs := #[.tmp 5, .tmp 6]) rfl ?_); at_builtin; refine Kd.N_append_rows k35 (w0 := w) w.heap.size rfl (.tmp 5) (.tmp 6) 22 35 _ 72 rfl Try.underlying22 info35 rfl (by decide) (by omega) va y1 l0 _ _ _ (fun _ => True) (fun k => k < w.heap.size) rfl rfl ?aO ?aR ?aP ?aF ?aB ?aS ?aL ?_; (case aR => exact Kd.F_below HF0.out HB.out); (case aP => exact (fun k hk => ⟨trivial, fun he => by have := Kd.N_base HOa.out k he.symm; omega⟩)); (case aB => exact HB.out); (case aF => exact (fun _ _ => trivial)); (case aO => exact HOa.out); (case aS => exact HB.out.size); (case aL => have := LM2.out; omega); intro vb w6 ho hb hg hat; rw [← Ny2.out] at ho; have n0_ := Aside0.mk (hb); have n1_ := Aside0.mk (ho); clear HB; clear HOa; have HB := n0_; have HOa := n1_; clear n0_ n1_; clear ho hb hg hat))
    go_ret
    exact ⟨_, rfl, HOa.out, HB.out⟩
end Go.Proofs.Ytnnkohddhiecoaa.Dk
