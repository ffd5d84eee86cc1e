/- Texts that the row of LawShelfNobody rests on, part 5 of 6: contracts of the functions, their walks, plain laws. -/
import Derived.Test.YtgmaedngkhidlaaDoorBnShelfNobody4
import Derived.Shelf.SlSortCmp.NoneTotal
import Derived.Shelf.SlicesQ.Reverse
import Derived.Deep.LoopGhost
set_option linter.unusedSimpArgs false
-- ShC
namespace Go.Proofs.YtgmaedngkhidlaaDoor.Sf
open Go Go.RowKit Go.ChangeMaps Go.MapKept Go.Sort Go.Proofs.YtgmaedngkhidlaaDoorW.PrintWords Go.Proofs.YtgmaedngkhidlaaDoorW.PrintLast Go.Proofs.YtgmaedngkhidlaaDoorW.PrintMore
open Go.Maps (Keyed)
set_option linter.unusedVariables false
set_option linter.unusedSimpArgs false
set_option maxRecDepth 100000
end Go.Proofs.YtgmaedngkhidlaaDoor.Sf
-- ShD
namespace Go.Proofs.YtgmaedngkhidlaaDoor.Sf
open Go Go.RowKit Go.ChangeMaps Go.MapKept Go.Proofs.YtgmaedngkhidlaaDoorW.PrintWords Go.Proofs.YtgmaedngkhidlaaDoorW.PrintLast Go.Proofs.YtgmaedngkhidlaaDoorW.PrintMore
open Go.Maps (Keyed)
set_option linter.unusedVariables false
set_option linter.unusedSimpArgs false
set_option maxRecDepth 100000
end Go.Proofs.YtgmaedngkhidlaaDoor.Sf
-- ShE
namespace Go.Proofs.YtgmaedngkhidlaaDoor.Sf
open Go Go.RowKit Go.ChangeMaps Go.MapKept Go.Proofs.YtgmaedngkhidlaaDoorW.PrintWords Go.Proofs.YtgmaedngkhidlaaDoorW.PrintLast Go.Proofs.YtgmaedngkhidlaaDoorW.PrintMore
open Go.Maps (Keyed)
set_option linter.unusedVariables false
set_option linter.unusedSimpArgs false
set_option maxRecDepth 100000
section
variable {β : Type} {p : β → Prop} [Inhabited {x : β // p x}] {enc : β → List Value} {k : Nat} {w : World} {blk : Nat}
end
instance : Inhabited {c : Cel // KeyL c.key} := ⟨⟨zC, keyL_zero⟩⟩
instance : Inhabited {d : Don // 0 ≤ d.client ∧ d.client < 4} := ⟨⟨zD, by decide⟩⟩
end Go.Proofs.YtgmaedngkhidlaaDoor.Sf
-- ShF
namespace Go.Proofs.YtgmaedngkhidlaaDoor.Sf
open Go Go.RowKit Go.ChangeMaps Go.MapKept Go.Proofs.YtgmaedngkhidlaaDoorW.PrintWords Go.Proofs.YtgmaedngkhidlaaDoorW.PrintLast Go.Proofs.YtgmaedngkhidlaaDoorW.PrintMore
open Go.Maps (Keyed)
set_option linter.unusedVariables false
set_option linter.unusedSimpArgs false
end Go.Proofs.YtgmaedngkhidlaaDoor.Sf
-- ShG
namespace Go.Proofs.YtgmaedngkhidlaaDoor.Sf
open Go Go.RowKit Go.ChangeMaps Go.MapKept Go.Proofs.YtgmaedngkhidlaaDoorW.PrintWords Go.Proofs.YtgmaedngkhidlaaDoorW.PrintLast Go.Proofs.YtgmaedngkhidlaaDoorW.PrintMore
open Go.Maps (Keyed)
set_option linter.unusedVariables false
set_option linter.unusedSimpArgs false
section
variable {F G : Nat → Prop} {p : Nat} {s : Sh}
end
end Go.Proofs.YtgmaedngkhidlaaDoor.Sf
-- ShH
namespace Go.Proofs.YtgmaedngkhidlaaDoor.Sf
open Go Go.RowKit Go.ChangeMaps Go.MapKept Go.Proofs.YtgmaedngkhidlaaDoorW.PrintWords Go.Proofs.YtgmaedngkhidlaaDoorW.PrintLast Go.Proofs.YtgmaedngkhidlaaDoorW.PrintMore
open Go.Maps (Keyed)
set_option linter.unusedVariables false
set_option linter.unusedSimpArgs false
section
variable {F G : Nat → Prop} {p : Nat} {s : Sh}
end
end Go.Proofs.YtgmaedngkhidlaaDoor.Sf
-- ShI
namespace Go.Proofs.YtgmaedngkhidlaaDoor.Sf
open Go Go.RowKit Go.ChangeMaps Go.MapKept Go.Proofs.YtgmaedngkhidlaaDoorW.PrintWords Go.Proofs.YtgmaedngkhidlaaDoorW.PrintLast Go.Proofs.YtgmaedngkhidlaaDoorW.PrintMore
open Go.Maps (Keyed)
set_option linter.unusedVariables false
set_option linter.unusedSimpArgs false
theorem lit_one (w : World) (A : Option Addr) (n c : Nat) : ∃ b w1, (Instr.buildSlice 93 1 #[(0, .slice A n c)]).run Tryd.prog w = .ok (.slice (some ⟨b, 0, none⟩) 1 1) w1 ∧ w1.heap[b]? = some (.cells #[.slice A n c] 26 (0, 0)) ∧ Below w.heap.size w w1 :=
  ⟨w.heap.size, w.alloc (.cells #[.slice A n c] 26 (0, 0)), by kernel_rfl, at_alloc w _, below_alloc (Below.refl _ _) _⟩
end Go.Proofs.YtgmaedngkhidlaaDoor.Sf
-- ShA
namespace Go.Proofs.YtgmaedngkhidlaaDoor.Sf
open Go Go.RowKit Go.ChangeMaps Go.MapKept Go.Proofs.YtgmaedngkhidlaaDoorW.PrintWords Go.Proofs.YtgmaedngkhidlaaDoorW.PrintLast Go.Proofs.YtgmaedngkhidlaaDoorW.PrintMore
open Go.Maps (Keyed)
set_option linter.unusedVariables false
set_option linter.unusedSimpArgs false
section
variable {F G : Nat → Prop} {p : Nat} {s : Sh}
end
end Go.Proofs.YtgmaedngkhidlaaDoor.Sf
-- ShB
namespace Go.Proofs.YtgmaedngkhidlaaDoor.Sf
open Go Go.RowKit Go.ChangeMaps Go.MapKept Go.Proofs.YtgmaedngkhidlaaDoorW.PrintWords Go.Proofs.YtgmaedngkhidlaaDoorW.PrintLast Go.Proofs.YtgmaedngkhidlaaDoorW.PrintMore
open Go.Maps (Keyed)
set_option linter.unusedVariables false
set_option linter.unusedSimpArgs false
set_option maxRecDepth 100000
theorem eqK_self {a : List Int} (ha : KeyL a) (w : World) : (Op.equalIn 9999 28 (vK a) (vK a)).run Tryd.prog w = .ok true w := by
  obtain ⟨p, hp⟩ := key_some ha
  have hw : (match Tryd.prog.underlying 28 with | some (.array _ _) | some (.struct _) => true | _ => false) = true := by kernel_rfl
  obtain ⟨xs, L, e1, h1, r1⟩ := keyOf_top hw hp
  have hkt : Tryd.prog.keyTypeAt 3 28 = true := by kernel_rfl
  have g1 : (vK a).cells = xs := by rw [e1]; rfl
  obtain ⟨r, hr, hiff⟩ := run_equalIn_deep (P := Tryd.prog) 9996 3 28 hkt w _ _ (vK a) (vK a) L L (formedK ha.len) (formedK ha.len) (by rw [g1]; exact h1) (by rw [g1]; exact h1)
  rw [hiff.2 rfl] at hr
  exact hr
theorem str_self (v : ByteArray) : (v == v) = true := by rcases v with ⟨d⟩; exact beq_self_eq_true d
theorem eqR_self {x : Rc} (hx : KeyL x.key) (w : World) : (Op.equalIn 10000 32 (.agg (encR x).toArray) (.agg (encR x).toArray)).run Tryd.prog w = .ok true w := by
  have hK := eqK_self hx w
  obtain ⟨i, e, k, v, s, c, q⟩ := x
  obtain ⟨a0, a1, a2, a3, a4, a5, a6, a7, rfl⟩ := key8 hx.len
  have hs := str_self s
  show (Op.equalIn 10000 32 (.agg #[.int .i64 i, .int .i64 e, .int .u8 a0, .int .u8 a1, .int .u8 a2, .int .u8 a3, .int .u8 a4, .int .u8 a5, .int .u8 a6, .int .u8 a7, .int .i64 v, .string s, .int .i64 c, .int .i64 q]) (.agg #[.int .i64 i, .int .i64 e, .int .u8 a0, .int .u8 a1, .int .u8 a2, .int .u8 a3, .int .u8 a4, .int .u8 a5, .int .u8 a6, .int .u8 a7, .int .i64 v, .string s, .int .i64 c, .int .i64 q])).run Tryd.prog w = _
  change (Op.equalIn 9999 28 (.agg #[.int .u8 a0, .int .u8 a1, .int .u8 a2, .int .u8 a3, .int .u8 a4, .int .u8 a5, .int .u8 a6, .int .u8 a7]) (.agg #[.int .u8 a0, .int .u8 a1, .int .u8 a2, .int .u8 a3, .int .u8 a4, .int .u8 a5, .int .u8 a6, .int .u8 a7])).run Tryd.prog w = _ at hK
  go_simp
theorem eqC_self {x : Cel} (hx : KeyL x.key) (w : World) : (Op.equalIn 10000 45 (.agg (encC x).toArray) (.agg (encC x).toArray)).run Tryd.prog w = .ok true w := by
  have hK := eqK_self hx w
  obtain ⟨k, v, s⟩ := x
  obtain ⟨a0, a1, a2, a3, a4, a5, a6, a7, rfl⟩ := key8 hx.len
  have hs := str_self s
  show (Op.equalIn 10000 45 (.agg #[.int .u8 a0, .int .u8 a1, .int .u8 a2, .int .u8 a3, .int .u8 a4, .int .u8 a5, .int .u8 a6, .int .u8 a7, .int .i64 v, .string s]) (.agg #[.int .u8 a0, .int .u8 a1, .int .u8 a2, .int .u8 a3, .int .u8 a4, .int .u8 a5, .int .u8 a6, .int .u8 a7, .int .i64 v, .string s])).run Tryd.prog w = _
  change (Op.equalIn 9999 28 (.agg #[.int .u8 a0, .int .u8 a1, .int .u8 a2, .int .u8 a3, .int .u8 a4, .int .u8 a5, .int .u8 a6, .int .u8 a7]) (.agg #[.int .u8 a0, .int .u8 a1, .int .u8 a2, .int .u8 a3, .int .u8 a4, .int .u8 a5, .int .u8 a6, .int .u8 a7])).run Tryd.prog w = _ at hK
  go_simp
theorem eqD_self (x : Don) (w : World) : (Op.equalIn 10000 58 (.agg (encD x).toArray) (.agg (encD x).toArray)).run Tryd.prog w = .ok true w := by
  obtain ⟨c, q, v⟩ := x
  show (Op.equalIn 10000 58 (.agg #[.int .i64 c, .int .i64 q, .int .i64 v]) (.agg #[.int .i64 c, .int .i64 q, .int .i64 v])).run Tryd.prog w = _
  go_simp
theorem exec_neq {o : Oper} {a : Act} {w : World} (T R : TypeId) (x y : Operand) (ho : o.op = .binOp .neq T x y R) (xs : Array Value) (hx : a.eval x = .agg xs) (hy : a.eval y = .agg xs) (hg : Tryd.prog.eqGuardType Tryd.prog.depth T = false) (h : ∀ w', (Op.equalIn 10000 T (.agg xs) (.agg xs)).run Tryd.prog w' = .ok true w') : (execOp a.eval o).run Tryd.prog w = .ok (.value (.bool false)) w := by
  unfold execOp
  simp only [ho, hx, hy]
  have h1 : (eqGuard .neq T x y (.agg xs) (.agg xs)).run Tryd.prog w = .ok () w := by
    unfold eqGuard
    simp [Sem.run_bind, hg, go_sem]
  have h2 : (binOp .neq T (.agg xs) (.agg xs)).run Tryd.prog w = .ok (.bool false) w := by
    unfold binOp
    simp [Op.equal, go_sem, show Op.maxDepth = 10000 from rfl, h]
  simp only [Sem.run_bind, h1, h2, Result.andThen_ok, Sem.run_pure]
theorem C_cellC {A : Option Addr} {n : Nat} {R : List Cel} {w : World} (h : kC.C w A n R) (i : Nat) (hi : i < R.length) : ∃ ad, A = some ad ∧ (encC R[i]).length = 10 ∧ ∀ j v, (encC R[i])[j]? = some v → w.cell? ((ad.add (i * 10)).add j) = some v := by
  obtain ⟨ad, e, hk, hc⟩ := C_atC h i hi
  exact ⟨ad, e, encC_len hk, hc⟩
set_option maxHeartbeats 8000000 in
theorem SameT_calls (t : Tab) (A B C D : Option Addr) (ca cb cc cd : Nat) (w : World) (hA : kC.C w A t.cells.length t.cells) (hB : kD.C w B t.done.length t.done) (hC : kC.C w C t.cells.length t.cells) (hD : kD.C w D t.done.length t.done) (hk : ∀ x ∈ t.cells, KeyL x.key) :
    Calls Tryd.prog 27 #[vT t.idx t.epoch A t.cells.length ca B t.done.length cb, vT t.idx t.epoch C t.cells.length cc D t.done.length cd] w fun e w' => e = .returned (.bool true) ∧ Below w.heap.size w w' := by
  have hlc := hA.2.1
  have hld := hB.2.1
  obtain ⟨g, hg⟩ : ∃ g, w.heap.size = g := ⟨_, rfl⟩
  obtain ⟨idx, hidx⟩ : ∃ idx, t.idx = idx := ⟨_, rfl⟩
  obtain ⟨ep, hep⟩ : ∃ ep, t.epoch = ep := ⟨_, rfl⟩
  obtain ⟨n, hn⟩ : ∃ n, t.cells.length = n := ⟨_, rfl⟩
  obtain ⟨m, hm⟩ : ∃ m, t.done.length = m := ⟨_, rfl⟩
  rw [hidx, hep, hn, hm]
  rw [hn] at hlc
  rw [hm] at hld
  obtain ⟨w1, hw1⟩ : ∃ w1, w.alloc (.cells #[.int .i64 idx, .int .i64 ep, .slice A n ca, .slice B m cb] 25) = w1 := ⟨_, rfl⟩
  have hs1 : w1.heap.size = g + 1 := by rw [← hw1, ← hg]; simp
  obtain ⟨w2, hw2⟩ : ∃ w2, w1.alloc (.cells #[.int .i64 idx, .int .i64 ep, .slice C n cc, .slice D m cd] 25) = w2 := ⟨_, rfl⟩
  have hb1 : Below w.heap.size w w1 := hw1 ▸ below_alloc (Below.refl _ _) _
  have hb2 : Below w.heap.size w w2 := below_then hb1 hb1.size (hw2 ▸ below_alloc (Below.refl _ _) _)
  have hR1 : w1.heap[g]? = some (.cells #[.int .i64 idx, .int .i64 ep, .slice A n ca, .slice B m cb] 25) := hg ▸ hw1 ▸ at_alloc w _
  have hR2 : w2.heap[g]? = some (.cells #[.int .i64 idx, .int .i64 ep, .slice A n ca, .slice B m cb] 25) := hw2 ▸ under_alloc hR1 _
  have hQ2 : w2.heap[g + 1]? = some (.cells #[.int .i64 idx, .int .i64 ep, .slice C n cc, .slice D m cd] 25) := hs1 ▸ hw2 ▸ at_alloc w1 _
  have HA := Aside0.mk (Kd.C_below hA hb2)
  have HB := Aside0.mk (Kd.C_below hB hb2)
  have HC := Aside0.mk (Kd.C_below hC hb2)
  have HD := Aside0.mk (Kd.C_below hD hb2)
  have HK := Aside0.mk hk
  have HN := Aside0.mk (And.intro hn hm)
  have HL := Aside0.mk (And.intro hlc hld)
  have HW := Aside0.mk (And.intro hw1 hw2)
  have HBw := Aside0.mk hb2
  have HR2 := Aside0.mk hR2
  have HQ2 := Aside0.mk hQ2
  have HGC : Aside0 (∀ q, (w2.drewN q).cell? ⟨g, 2, none⟩ = some (.slice A n ca) ∧ (w2.drewN q).cell? ⟨g + 1, 2, none⟩ = some (.slice C n cc)) := ⟨fun q => ⟨(blk_cell (blk_drewN hR2 q) 2).trans rfl, (blk_cell (blk_drewN hQ2 q) 2).trans rfl⟩⟩
  have HGD : Aside0 (∀ q, (w2.drewN q).cell? ⟨g, 3, none⟩ = some (.slice B m cb) ∧ (w2.drewN q).cell? ⟨g + 1, 3, none⟩ = some (.slice D m cd)) := ⟨fun q => ⟨(blk_cell (blk_drewN hR2 q) 3).trans rfl, (blk_cell (blk_drewN hQ2 q) 3).trans rfl⟩⟩
  have HEC : Aside0 (Tryd.prog.eqGuardType Tryd.prog.depth 45 = false) := ⟨by kernel_rfl⟩
  have HED : Aside0 (Tryd.prog.eqGuardType Tryd.prog.depth 58 = false) := ⟨by kernel_rfl⟩
  have a0 : w2.cell? ⟨g, 0, none⟩ = some (.int .i64 idx) := (blk_cell hR2 0).trans rfl
  have a1 : w2.cell? ⟨g, 1, none⟩ = some (.int .i64 ep) := (blk_cell hR2 1).trans rfl
  have a2 : w2.cell? ⟨g, 2, none⟩ = some (.slice A n ca) := (blk_cell hR2 2).trans rfl
  have a3 : w2.cell? ⟨g, 3, none⟩ = some (.slice B m cb) := (blk_cell hR2 3).trans rfl
  have b0 : w2.cell? ⟨g + 1, 0, none⟩ = some (.int .i64 idx) := (blk_cell hQ2 0).trans rfl
  have b1 : w2.cell? ⟨g + 1, 1, none⟩ = some (.int .i64 ep) := (blk_cell hQ2 1).trans rfl
  have b2 : w2.cell? ⟨g + 1, 2, none⟩ = some (.slice C n cc) := (blk_cell hQ2 2).trans rfl
  have b3 : w2.cell? ⟨g + 1, 3, none⟩ = some (.slice D m cd) := (blk_cell hQ2 3).trans rfl
  clear hw1 hs1 hw2 hb1 hb2 hR1 hR2 hQ2 hA hB hC hD hk hn hm hlc hld hidx hep
  go_enter Tryd.func27, Tryd.ntmps27
  go_upto_region 1 with (fail)
  rw [HW.out.1, HW.out.2]
  go_upto_region 4 with (fail)
  go_loopw [40] (fun v40 wr => ∃ j : Nat, j ≤ n ∧ v40 = .int .i64 (j : Int) ∧ Drawn0 w2 wr) (fun v40 _ => n - (intOf v40).toNat)
  case atStart => exact ⟨0, Nat.zero_le _, rfl, Drawn0.refl _⟩
  case round =>
    obtain ⟨j, hj, rfl, ⟨nd, rfl⟩⟩ := hrel
    clear a0 a1 a2 a3 b0 b1 b2 b3
    by_cases e1 : j < n
    · have e1' : decide ((j : Int) < (n : Int)) = true := decide_eq_true (by omega)
      have hjl : j < t.cells.length := by have := HN.out.1; omega
      have HWJ : Aside0 (wrap64 ((j : Int) + 1) = (j : Int) + 1) := ⟨by have := HL.out.1; unfold wrap64; omega⟩
      obtain ⟨ad, hA, hkl, hca⟩ := C_cellC HA.out j hjl
      obtain ⟨bd, hB, _, hcb⟩ := C_cellC HC.out j hjl
      subst hA
      subst hB
      obtain ⟨x, hx⟩ : ∃ x, t.cells[j] = x := ⟨_, rfl⟩
      rw [hx] at hkl hca hcb
      have hkx := HK.out x (hx ▸ List.getElem_mem hjl)
      obtain ⟨xs, hxs⟩ : ∃ xs, encC x = xs := ⟨_, rfl⟩
      have HEQ : Aside0 (∀ w' : World, (Op.equalIn 10000 45 (.agg xs.toArray) (.agg xs.toArray)).run Tryd.prog w' = .ok true w') := ⟨fun w' => hxs ▸ eqC_self hkx w'⟩
      have HXL : Aside0 (xs.length = 10) := ⟨hxs ▸ hkl⟩
      have HCA : Aside0 (∀ m q v, xs[q]? = some v → (w2.drewN m).cell? ((ad.add (j * 10)).add q) = some v) := ⟨fun m q v hq => by rw [← hxs] at hq; exact hca q v hq⟩
      have HCB : Aside0 (∀ m q v, xs[q]? = some v → (w2.drewN m).cell? ((bd.add (j * 10)).add q) = some v) := ⟨fun m q v hq => by rw [← hxs] at hq; exact hcb q v hq⟩
      clear hkl hca hcb hx hkx hxs
      go_upto_region 6 with (fail)
      refine start_ (n := 11) (S := fun w' => ∃ m, w' = w2.drewN m) (ds := []) #[false, false, false, false, false, false, false, false, false, false, false] (by kernel_rfl) rfl rfl (⟨nd + 1, rfl⟩) (fun hHeld => ?_)
      refine pure_ (i := 0) (N := some 43) (v := ?_) (a' := ?_) #[true, false, false, false, false, false, false, false, false, false, false] rfl rfl (by kernel_rfl) (fun _ _ _ h => h) (Or.inl ⟨by rfl, ?_⟩) ?_ ?_
      rotate_left
      · intro w'
        go_simp
        with_reducible rfl
      rotate_left
      · simp only [Act.put, List.setIfInBounds_toArray, List.set_cons_zero, List.set_cons_succ, i64_w, i32_w]
        rfl
      refine pure_ (i := 2) (N := some 45) (v := ?_) (a' := ?_) #[true, false, true, false, false, false, false, false, false, false, false] rfl rfl (by kernel_rfl) (fun _ _ _ h => h) (Or.inl ⟨by rfl, ?_⟩) ?_ ?_
      rotate_left
      · intro w'
        go_simp
        with_reducible rfl
      rotate_left
      · simp only [Act.put, List.setIfInBounds_toArray, List.set_cons_zero, List.set_cons_succ, i64_w, i32_w]
        rfl
      refine pure_ (i := 5) (N := some 48) (v := ?_) (a' := ?_) #[true, false, true, false, false, true, false, false, false, false, false] rfl rfl (by kernel_rfl) (fun _ _ _ h => h) (Or.inl ⟨by rfl, ?_⟩) ?_ ?_
      rotate_left
      · intro w'
        go_simp
        with_reducible rfl
      rotate_left
      · simp only [Act.put, List.setIfInBounds_toArray, List.set_cons_zero, List.set_cons_succ, i64_w, i32_w]
        rfl
      refine pure_ (i := 7) (N := some 50) (v := ?_) (a' := ?_) #[true, false, true, false, false, true, false, true, false, false, false] rfl rfl (by kernel_rfl) (fun _ _ _ h => h) (Or.inl ⟨by rfl, ?_⟩) ?_ ?_
      rotate_left
      · intro w'
        go_simp
        with_reducible rfl
      rotate_left
      · simp only [Act.put, List.setIfInBounds_toArray, List.set_cons_zero, List.set_cons_succ, i64_w, i32_w]
        rfl
      refine take_ (i := 1) (N := some 44) (v := ?_) (a' := ?_) #[true, true, true, false, false, true, false, true, false, false, false] rfl rfl (by kernel_rfl) (fun _ _ _ h => h) (Or.inl ⟨by rfl, ?_⟩) hHeld ?_ ?_
      rotate_left
      · intro w' s0
        obtain ⟨m, rfl⟩ := s0
        have d_ := (HGC.out m).1
        go_simp
        with_reducible rfl
      rotate_left
      · simp only [Act.put, List.setIfInBounds_toArray, List.set_cons_zero, List.set_cons_succ, i64_w, i32_w]
        rfl
      refine pure_ (i := 3) (N := some 46) (v := ?_) (a' := ?_) #[true, true, true, true, false, true, false, true, false, false, false] rfl rfl (by kernel_rfl) (fun _ _ _ h => h) (Or.inl ⟨by rfl, ?_⟩) ?_ ?_
      rotate_left
      · intro w'
        go_simp
        with_reducible rfl
      rotate_left
      · simp only [Act.put, List.setIfInBounds_toArray, List.set_cons_zero, List.set_cons_succ, i64_w, i32_w]
        rfl
      refine take_ (i := 4) (N := some 47) (v := ?_) (a' := ?_) #[true, true, true, true, true, true, false, true, false, false, false] rfl rfl (by kernel_rfl) (fun _ _ _ h => h) (Or.inl ⟨by rfl, ?_⟩) hHeld ?_ ?_
      rotate_left
      · intro w' s0
        obtain ⟨m, rfl⟩ := s0
        refine Eq.trans (exec_at (P := Tryd.prog) 45 (.tmp 46) rfl (ad.add (j * 10)) rfl xs (by rw [HXL.out]; exact aggC) (HCA.out m)) ?_
        with_reducible rfl
      rotate_left
      · simp only [Act.put, List.setIfInBounds_toArray, List.set_cons_zero, List.set_cons_succ, i64_w, i32_w]
        rfl
      refine take_ (i := 6) (N := some 49) (v := ?_) (a' := ?_) #[true, true, true, true, true, true, true, true, false, false, false] rfl rfl (by kernel_rfl) (fun _ _ _ h => h) (Or.inl ⟨by rfl, ?_⟩) hHeld ?_ ?_
      rotate_left
      · intro w' s0
        obtain ⟨m, rfl⟩ := s0
        have d_ := (HGC.out m).2
        go_simp
        with_reducible rfl
      rotate_left
      · simp only [Act.put, List.setIfInBounds_toArray, List.set_cons_zero, List.set_cons_succ, i64_w, i32_w]
        rfl
      refine pure_ (i := 8) (N := some 51) (v := ?_) (a' := ?_) #[true, true, true, true, true, true, true, true, true, false, false] rfl rfl (by kernel_rfl) (fun _ _ _ h => h) (Or.inl ⟨by rfl, ?_⟩) ?_ ?_
      rotate_left
      · intro w'
        go_simp
        with_reducible rfl
      rotate_left
      · simp only [Act.put, List.setIfInBounds_toArray, List.set_cons_zero, List.set_cons_succ, i64_w, i32_w]
        rfl
      refine take_ (i := 9) (N := some 52) (v := ?_) (a' := ?_) #[true, true, true, true, true, true, true, true, true, true, false] rfl rfl (by kernel_rfl) (fun _ _ _ h => h) (Or.inl ⟨by rfl, ?_⟩) hHeld ?_ ?_
      rotate_left
      · intro w' s0
        obtain ⟨m, rfl⟩ := s0
        refine Eq.trans (exec_at (P := Tryd.prog) 45 (.tmp 51) rfl (bd.add (j * 10)) rfl xs (by rw [HXL.out]; exact aggC) (HCB.out m)) ?_
        with_reducible rfl
      rotate_left
      · simp only [Act.put, List.setIfInBounds_toArray, List.set_cons_zero, List.set_cons_succ, i64_w, i32_w]
        rfl
      refine pure_ (i := 10) (N := some 53) (v := ?_) (a' := ?_) #[true, true, true, true, true, true, true, true, true, true, true] rfl rfl (by kernel_rfl) (fun _ _ _ h => h) (Or.inl ⟨by rfl, ?_⟩) ?_ ?_
      rotate_left
      · intro w'
        refine Eq.trans (exec_neq 45 45 (.tmp 47) (.tmp 52) rfl xs.toArray rfl rfl HEC.out HEQ.out) ?_
        with_reducible rfl
      rotate_left
      · simp only [Act.put, List.setIfInBounds_toArray, List.set_cons_zero, List.set_cons_succ, i64_w, i32_w]
        rfl
      refine done_ (by kernel_rfl) ?_
      go_wp2_with (fail)
      rw [HWJ.out]
      exact ⟨⟨j + 1, by omega, by push_cast; rfl, ⟨_, rfl⟩⟩, by simp [intOf]; omega⟩
    · have e1' : decide ((j : Int) < (n : Int)) = false := decide_eq_false (by omega)
      have a3 := (HGD.out nd).1
      go_upto_region 10 with (fail)
      go_loopw [58] (fun v58 wr => ∃ j : Nat, j ≤ m ∧ v58 = .int .i64 (j : Int) ∧ Drawn0 w2 wr) (fun v58 _ => m - (intOf v58).toNat)
      case atStart => exact ⟨0, Nat.zero_le _, rfl, ⟨_, rfl⟩⟩
      case round =>
        clear a3 e1 e1'
        obtain ⟨j, hj, rfl, ⟨nd, rfl⟩⟩ := hrel
        by_cases e1 : j < m
        · have e1' : decide ((j : Int) < (m : Int)) = true := decide_eq_true (by omega)
          have hjl : j < t.done.length := by have := HN.out.2; omega
          have HWJ : Aside0 (wrap64 ((j : Int) + 1) = (j : Int) + 1) := ⟨by have := HL.out.2; unfold wrap64; omega⟩
          obtain ⟨ad, hA, hca⟩ := C_atD HB.out j hjl
          obtain ⟨bd, hB, hcb⟩ := C_atD HD.out j hjl
          subst hA
          subst hB
          obtain ⟨x, hx⟩ : ∃ x, t.done[j] = x := ⟨_, rfl⟩
          rw [hx] at hca hcb
          obtain ⟨xs, hxs⟩ : ∃ xs, encD x = xs := ⟨_, rfl⟩
          have HEQ : Aside0 (∀ w' : World, (Op.equalIn 10000 58 (.agg xs.toArray) (.agg xs.toArray)).run Tryd.prog w' = .ok true w') := ⟨fun w' => hxs ▸ eqD_self x w'⟩
          have HXL : Aside0 (xs.length = 3) := ⟨hxs ▸ rfl⟩
          have HCA : Aside0 (∀ m q v, xs[q]? = some v → (w2.drewN m).cell? ((ad.add (j * 3)).add q) = some v) := ⟨fun m q v hq => by rw [← hxs] at hq; exact hca q v hq⟩
          have HCB : Aside0 (∀ m q v, xs[q]? = some v → (w2.drewN m).cell? ((bd.add (j * 3)).add q) = some v) := ⟨fun m q v hq => by rw [← hxs] at hq; exact hcb q v hq⟩
          clear hca hcb hx hxs
          go_upto_region 12 with (fail)
          refine start_ (n := 11) (S := fun w' => ∃ m, w' = w2.drewN m) (ds := []) #[false, false, false, false, false, false, false, false, false, false, false] (by kernel_rfl) rfl rfl (⟨nd + 1, rfl⟩) (fun hHeld => ?_)
          refine pure_ (i := 0) (N := some 61) (v := ?_) (a' := ?_) #[true, false, false, false, false, false, false, false, false, false, false] rfl rfl (by kernel_rfl) (fun _ _ _ h => h) (Or.inl ⟨by rfl, ?_⟩) ?_ ?_
          rotate_left
          · intro w'
            go_simp
            with_reducible rfl
          rotate_left
          · simp only [Act.put, List.setIfInBounds_toArray, List.set_cons_zero, List.set_cons_succ, i64_w, i32_w]
            rfl
          refine pure_ (i := 2) (N := some 63) (v := ?_) (a' := ?_) #[true, false, true, false, false, false, false, false, false, false, false] rfl rfl (by kernel_rfl) (fun _ _ _ h => h) (Or.inl ⟨by rfl, ?_⟩) ?_ ?_
          rotate_left
          · intro w'
            go_simp
            with_reducible rfl
          rotate_left
          · simp only [Act.put, List.setIfInBounds_toArray, List.set_cons_zero, List.set_cons_succ, i64_w, i32_w]
            rfl
          refine pure_ (i := 5) (N := some 66) (v := ?_) (a' := ?_) #[true, false, true, false, false, true, false, false, false, false, false] rfl rfl (by kernel_rfl) (fun _ _ _ h => h) (Or.inl ⟨by rfl, ?_⟩) ?_ ?_
          rotate_left
          · intro w'
            go_simp
            with_reducible rfl
          rotate_left
          · simp only [Act.put, List.setIfInBounds_toArray, List.set_cons_zero, List.set_cons_succ, i64_w, i32_w]
            rfl
          refine pure_ (i := 7) (N := some 68) (v := ?_) (a' := ?_) #[true, false, true, false, false, true, false, true, false, false, false] rfl rfl (by kernel_rfl) (fun _ _ _ h => h) (Or.inl ⟨by rfl, ?_⟩) ?_ ?_
          rotate_left
          · intro w'
            go_simp
            with_reducible rfl
          rotate_left
          · simp only [Act.put, List.setIfInBounds_toArray, List.set_cons_zero, List.set_cons_succ, i64_w, i32_w]
            rfl
          refine take_ (i := 1) (N := some 62) (v := ?_) (a' := ?_) #[true, true, true, false, false, true, false, true, false, false, false] rfl rfl (by kernel_rfl) (fun _ _ _ h => h) (Or.inl ⟨by rfl, ?_⟩) hHeld ?_ ?_
          rotate_left
          · intro w' s0
            obtain ⟨m, rfl⟩ := s0
            have d_ := (HGD.out m).1
            go_simp
            with_reducible rfl
          rotate_left
          · simp only [Act.put, List.setIfInBounds_toArray, List.set_cons_zero, List.set_cons_succ, i64_w, i32_w]
            rfl
          refine pure_ (i := 3) (N := some 64) (v := ?_) (a' := ?_) #[true, true, true, true, false, true, false, true, false, false, false] rfl rfl (by kernel_rfl) (fun _ _ _ h => h) (Or.inl ⟨by rfl, ?_⟩) ?_ ?_
          rotate_left
          · intro w'
            go_simp
            with_reducible rfl
          rotate_left
          · simp only [Act.put, List.setIfInBounds_toArray, List.set_cons_zero, List.set_cons_succ, i64_w, i32_w]
            rfl
          refine take_ (i := 4) (N := some 65) (v := ?_) (a' := ?_) #[true, true, true, true, true, true, false, true, false, false, false] rfl rfl (by kernel_rfl) (fun _ _ _ h => h) (Or.inl ⟨by rfl, ?_⟩) hHeld ?_ ?_
          rotate_left
          · intro w' s0
            obtain ⟨m, rfl⟩ := s0
            refine Eq.trans (exec_at (P := Tryd.prog) 58 (.tmp 64) rfl (ad.add (j * 3)) rfl xs (by rw [HXL.out]; exact aggD) (HCA.out m)) ?_
            with_reducible rfl
          rotate_left
          · simp only [Act.put, List.setIfInBounds_toArray, List.set_cons_zero, List.set_cons_succ, i64_w, i32_w]
            rfl
          refine take_ (i := 6) (N := some 67) (v := ?_) (a' := ?_) #[true, true, true, true, true, true, true, true, false, false, false] rfl rfl (by kernel_rfl) (fun _ _ _ h => h) (Or.inl ⟨by rfl, ?_⟩) hHeld ?_ ?_
          rotate_left
          · intro w' s0
            obtain ⟨m, rfl⟩ := s0
            have d_ := (HGD.out m).2
            go_simp
            with_reducible rfl
          rotate_left
          · simp only [Act.put, List.setIfInBounds_toArray, List.set_cons_zero, List.set_cons_succ, i64_w, i32_w]
            rfl
          refine pure_ (i := 8) (N := some 69) (v := ?_) (a' := ?_) #[true, true, true, true, true, true, true, true, true, false, false] rfl rfl (by kernel_rfl) (fun _ _ _ h => h) (Or.inl ⟨by rfl, ?_⟩) ?_ ?_
          rotate_left
          · intro w'
            go_simp
            with_reducible rfl
          rotate_left
          · simp only [Act.put, List.setIfInBounds_toArray, List.set_cons_zero, List.set_cons_succ, i64_w, i32_w]
            rfl
          refine take_ (i := 9) (N := some 70) (v := ?_) (a' := ?_) #[true, true, true, true, true, true, true, true, true, true, false] rfl rfl (by kernel_rfl) (fun _ _ _ h => h) (Or.inl ⟨by rfl, ?_⟩) hHeld ?_ ?_
          rotate_left
          · intro w' s0
            obtain ⟨m, rfl⟩ := s0
            refine Eq.trans (exec_at (P := Tryd.prog) 58 (.tmp 69) rfl (bd.add (j * 3)) rfl xs (by rw [HXL.out]; exact aggD) (HCB.out m)) ?_
            with_reducible rfl
          rotate_left
          · simp only [Act.put, List.setIfInBounds_toArray, List.set_cons_zero, List.set_cons_succ, i64_w, i32_w]
            rfl
          refine pure_ (i := 10) (N := some 71) (v := ?_) (a' := ?_) #[true, true, true, true, true, true, true, true, true, true, true] rfl rfl (by kernel_rfl) (fun _ _ _ h => h) (Or.inl ⟨by rfl, ?_⟩) ?_ ?_
          rotate_left
          · intro w'
            refine Eq.trans (exec_neq 58 58 (.tmp 65) (.tmp 70) rfl xs.toArray rfl rfl HED.out HEQ.out) ?_
            with_reducible rfl
          rotate_left
          · simp only [Act.put, List.setIfInBounds_toArray, List.set_cons_zero, List.set_cons_succ, i64_w, i32_w]
            rfl
          refine done_ (by kernel_rfl) ?_
          go_wp2_with (fail)
          rw [HWJ.out]
          exact ⟨⟨j + 1, by omega, by push_cast; rfl, ⟨_, rfl⟩⟩, by simp [intOf]; omega⟩
        · have e1' : decide ((j : Int) < (m : Int)) = false := decide_eq_false (by omega)
          go_wp2_with (fail)
          go_ret
          have hbo := below_then HBw.out HBw.out.size (pw_below_drewN (Below.refl w2.heap.size w2) nd)
          exact ⟨rfl, by first | exact hbo | exact hg ▸ hbo⟩
end Go.Proofs.YtgmaedngkhidlaaDoor.Sf
-- ShK
namespace Go.Proofs.YtgmaedngkhidlaaDoor.Sf
open Go Go.RowKit Go.ChangeMaps Go.MapKept Go.Proofs.YtgmaedngkhidlaaDoorW.PrintWords Go.Proofs.YtgmaedngkhidlaaDoorW.PrintLast Go.Proofs.YtgmaedngkhidlaaDoorW.PrintMore
open Go.Maps (Keyed)
set_option linter.unusedVariables false
set_option linter.unusedSimpArgs false
theorem RV.empty {G G' : Nat → Prop} {w : World} {v : Value} (h : RV G w v []) : RV G' w v [] := by
  obtain ⟨A, c, rfl, hl, hf⟩ := h
  exact ⟨A, c, rfl, hl, fun W' _ => ⟨rfl, by simp, fun h0 => absurd h0 (by simp)⟩⟩
structure FamI (S : List (Nat × Sh)) (B : List (World → Prop)) (w0 w : World) (F : Nat → Nat → Prop) (G : Nat → Prop) : Prop where
  sh : ∀ a ∈ S, IsS (F a.1) G w a.1 a.2
  wf : ∀ a ∈ S, Wf a.2 ∧ Ky a.2
  lo : ∀ a ∈ S, ∀ k, F a.1 k → w0.heap.size ≤ k
  ap : S.Pairwise fun a b => ∀ k, F a.1 k → ¬ F b.1 k
  g : ∀ k, G k → k < w.heap.size
  tb : Tabs w0
  be : Below w0.heap.size w0 w
  bl : ∀ P ∈ B, Foot P w (fun b => ¬ G b)
def Fam (S : List (Nat × Sh)) (B : List (World → Prop)) (w0 w : World) : Prop := ∃ F G, FamI S B w0 w F G
section
variable {S S1 S2 : List (Nat × Sh)} {B : List (World → Prop)} {w0 w w1 : World} {F : Nat → Nat → Prop} {G F' G' : Nat → Prop} {p q : Nat} {s s' : Sh}
theorem Fam.empty (hb : Below w0.heap.size w0 w) (ht : Tabs w0) : Fam [] [] w0 w :=
  ⟨fun _ _ => False, fun _ => False, fun a ha => (List.not_mem_nil ha).elim, fun a ha => (List.not_mem_nil ha).elim, fun a ha => (List.not_mem_nil ha).elim, List.Pairwise.nil, fun k hk => hk.elim, ht, hb, fun P hP => (List.not_mem_nil hP).elim⟩
end
end Go.Proofs.YtgmaedngkhidlaaDoor.Sf
-- ShL
namespace Go.Proofs.YtgmaedngkhidlaaDoor.Sf
open Go Go.RowKit Go.ChangeMaps Go.MapKept Go.Proofs.YtgmaedngkhidlaaDoorW.PrintWords Go.Proofs.YtgmaedngkhidlaaDoorW.PrintLast Go.Proofs.YtgmaedngkhidlaaDoorW.PrintMore
open Go.Maps (Keyed)
set_option linter.unusedVariables false
set_option linter.unusedSimpArgs false
end Go.Proofs.YtgmaedngkhidlaaDoor.Sf
-- ShO
namespace Go.Proofs.YtgmaedngkhidlaaDoor.Sf
open Go Go.RowKit Go.ChangeMaps Go.MapKept Go.Proofs.YtgmaedngkhidlaaDoorW.PrintWords Go.Proofs.YtgmaedngkhidlaaDoorW.PrintLast Go.Proofs.YtgmaedngkhidlaaDoorW.PrintMore
open Go.Maps (Keyed)
set_option linter.unusedVariables false
set_option linter.unusedSimpArgs false
end Go.Proofs.YtgmaedngkhidlaaDoor.Sf
-- ShP
namespace Go.Proofs.YtgmaedngkhidlaaDoor.Sf
open Go Go.RowKit Go.ChangeMaps Go.MapKept Go.Proofs.YtgmaedngkhidlaaDoorW.PrintWords Go.Proofs.YtgmaedngkhidlaaDoorW.PrintLast Go.Proofs.YtgmaedngkhidlaaDoorW.PrintMore
open Go.Maps (Keyed)
set_option linter.unusedVariables false
set_option linter.unusedSimpArgs false
end Go.Proofs.YtgmaedngkhidlaaDoor.Sf
-- ShQ
namespace Go.Proofs.YtgmaedngkhidlaaDoor.Sf
open Go Go.RowKit Go.ChangeMaps Go.MapKept Go.Proofs.YtgmaedngkhidlaaDoorW.PrintWords Go.Proofs.YtgmaedngkhidlaaDoorW.PrintLast Go.Proofs.YtgmaedngkhidlaaDoorW.PrintMore
open Go.Maps (Keyed)
set_option linter.unusedVariables false
set_option linter.unusedSimpArgs false
end Go.Proofs.YtgmaedngkhidlaaDoor.Sf
-- ShT
namespace Go.Proofs.YtgmaedngkhidlaaDoor.Sf
open Go Go.RowKit Go.ChangeMaps Go.MapKept Go.Proofs.YtgmaedngkhidlaaDoorW.PrintWords Go.Proofs.YtgmaedngkhidlaaDoorW.PrintLast Go.Proofs.YtgmaedngkhidlaaDoorW.PrintMore
open Go.Maps (Keyed)
set_option linter.unusedVariables false
set_option linter.unusedSimpArgs false
abbrev shZ : Array Value := #[.map none, .map none, .map none, .map none, .int .i64 0, .int .i64 0, .slice none 0 0, .int .i64 0, .bool false]
abbrev zTb : List Value := [.int .i64 0, .int .i64 0, .slice none 0 0, .slice none 0 0]
def Dead (w : World) (a : Option Addr) : Prop := a = none ∨ ∃ b, a = some ⟨b, 0, none⟩ ∧ w.heap[b]? = some (.cells shZ 86 (0, 0))
theorem Dead.below {w w1 : World} {a : Option Addr} (h : Dead w a) (hb : Below w.heap.size w w1) : Dead w1 a := h.imp id (fun ⟨b, h1, h2⟩ => ⟨b, h1, blk_below h2 hb⟩)
theorem bl1 (w : World) (o : Obj) : Below w.heap.size w (w.alloc o) := below_alloc (Below.refl _ _) _
theorem deadD_calls {w : World} {a : Option Addr} (h : Dead w a) : Calls Tryd.prog 51 #[.pointer a] w fun e w' => e = .returned (.bool true) ∧ w = w' := by
  rcases h with rfl | ⟨b, rfl, hp⟩
  · exact dead_nil w
  · have h8 := (blk_cell hp 8).trans (show _ = some (Value.bool false) from rfl)
    clear hp
    go_enter Tryd.func51, Tryd.ntmps51
    go_wp2
    go_ret
    exact ⟨rfl, rfl⟩
set_option maxRecDepth 100000 in
theorem Last_dead {w : World} {a : Option Addr} (h : Dead w a)  :
    Calls Tryd.prog 35 #[.pointer a] w fun e w' => e = .returned (.tuple #[.int .i64 0, .int .i64 0]) ∧ Below w.heap.size w w' := by
  have HD := Aside0.mk h
  clear h
  go_enter Tryd.func35, Tryd.ntmps35
  go_wp2_with (first
    | (go_at_call 51; refine (deadD_calls (by first | exact HD.out | exact HD.out.below (bl1 _ _) | exact HD.out.below (bl2 _ _ _) | exact HD.out.below (bl3 _ _ _ _))).mono ?_; rintro e w' ⟨rfl, rfl⟩))
  go_ret2
  exact ⟨rfl, by first | exact Below.refl _ _ | exact bl1 _ _ | exact bl2 _ _ _ | exact bl3 _ _ _ _⟩
set_option maxRecDepth 100000 in
theorem Low_dead {w : World} {a : Option Addr} (h : Dead w a)  :
    Calls Tryd.prog 20 #[.pointer a] w fun e w' => e = .returned (.int .i64 0) ∧ Below w.heap.size w w' := by
  have HD := Aside0.mk h
  clear h
  go_enter Tryd.func20, Tryd.ntmps20
  go_wp2_with (first
    | (go_at_call 51; refine (deadD_calls (by first | exact HD.out | exact HD.out.below (bl1 _ _) | exact HD.out.below (bl2 _ _ _) | exact HD.out.below (bl3 _ _ _ _))).mono ?_; rintro e w' ⟨rfl, rfl⟩))
  go_ret
  exact ⟨rfl, by first | exact Below.refl _ _ | exact bl1 _ _ | exact bl2 _ _ _ | exact bl3 _ _ _ _⟩
set_option maxRecDepth 100000 in
theorem Commit_dead {w : World} {a : Option Addr} (h : Dead w a)  :
    Calls Tryd.prog 30 #[.pointer a] w fun e w' => e = .returned (.int .i64 0) ∧ Below w.heap.size w w' := by
  have HD := Aside0.mk h
  clear h
  go_enter Tryd.func30, Tryd.ntmps30
  go_wp2_with (first
    | (go_at_call 51; refine (deadD_calls (by first | exact HD.out | exact HD.out.below (bl1 _ _) | exact HD.out.below (bl2 _ _ _) | exact HD.out.below (bl3 _ _ _ _))).mono ?_; rintro e w' ⟨rfl, rfl⟩))
  go_ret
  exact ⟨rfl, by first | exact Below.refl _ _ | exact bl1 _ _ | exact bl2 _ _ _ | exact bl3 _ _ _ _⟩
set_option maxRecDepth 100000 in
theorem Dirty_dead {w : World} {a : Option Addr} (h : Dead w a)  :
    Calls Tryd.prog 36 #[.pointer a] w fun e w' => e = .returned (.int .i64 0) ∧ Below w.heap.size w w' := by
  have HD := Aside0.mk h
  clear h
  go_enter Tryd.func36, Tryd.ntmps36
  go_wp2_with (first
    | (go_at_call 51; refine (deadD_calls (by first | exact HD.out | exact HD.out.below (bl1 _ _) | exact HD.out.below (bl2 _ _ _) | exact HD.out.below (bl3 _ _ _ _))).mono ?_; rintro e w' ⟨rfl, rfl⟩))
  go_ret
  exact ⟨rfl, by first | exact Below.refl _ _ | exact bl1 _ _ | exact bl2 _ _ _ | exact bl3 _ _ _ _⟩
set_option maxRecDepth 100000 in
theorem Epoch_dead {w : World} {a : Option Addr} (h : Dead w a) (i : Int) :
    Calls Tryd.prog 42 #[.pointer a, .int .i64 i] w fun e w' => e = .returned (.tuple #[.int .i64 0, .bool false]) ∧ Below w.heap.size w w' := by
  have HD := Aside0.mk h
  clear h
  go_enter Tryd.func42, Tryd.ntmps42
  go_wp2_with (first
    | (go_at_call 51; refine (deadD_calls (by first | exact HD.out | exact HD.out.below (bl1 _ _) | exact HD.out.below (bl2 _ _ _) | exact HD.out.below (bl3 _ _ _ _))).mono ?_; rintro e w' ⟨rfl, rfl⟩))
  go_ret2
  exact ⟨rfl, by first | exact Below.refl _ _ | exact bl1 _ _ | exact bl2 _ _ _ | exact bl3 _ _ _ _⟩
set_option maxRecDepth 100000 in
theorem Known_dead {w : World} {a : Option Addr} (h : Dead w a) (c q : Int) :
    Calls Tryd.prog 22 #[.pointer a, .agg #[.int .i64 c, .int .i64 q]] w fun e w' => e = .returned (.tuple #[.int .i64 0, .bool false]) ∧ Below w.heap.size w w' := by
  have HD := Aside0.mk h
  clear h
  go_enter Tryd.func22, Tryd.ntmps22
  go_wp2_with (first
    | (go_at_call 51; refine (deadD_calls (by first | exact HD.out | exact HD.out.below (bl1 _ _) | exact HD.out.below (bl2 _ _ _) | exact HD.out.below (bl3 _ _ _ _))).mono ?_; rintro e w' ⟨rfl, rfl⟩))
  go_ret2
  exact ⟨rfl, by first | exact Below.refl _ _ | exact bl1 _ _ | exact bl2 _ _ _ | exact bl3 _ _ _ _⟩
set_option maxRecDepth 100000 in
theorem Add_dead {w : World} {a : Option Addr} (h : Dead w a) (xs : List Value) :
    Calls Tryd.prog 21 #[.pointer a, .agg xs.toArray] w fun e w' => e = .returned (.int .i64 6) ∧ Below w.heap.size w w' := by
  have HD := Aside0.mk h
  clear h
  go_enter Tryd.func21, Tryd.ntmps21
  go_wp2_with (first
    | (go_at_call 51; refine (deadD_calls (by first | exact HD.out | exact HD.out.below (bl1 _ _) | exact HD.out.below (bl2 _ _ _) | exact HD.out.below (bl3 _ _ _ _))).mono ?_; rintro e w' ⟨rfl, rfl⟩))
  go_ret
  exact ⟨rfl, by first | exact Below.refl _ _ | exact bl1 _ _ | exact bl2 _ _ _ | exact bl3 _ _ _ _⟩
set_option maxRecDepth 100000 in
theorem Cut_dead {w : World} {a : Option Addr} (h : Dead w a) (i : Int) :
    Calls Tryd.prog 41 #[.pointer a, .int .i64 i] w fun e w' => e = .returned (.int .i64 6) ∧ Below w.heap.size w w' := by
  have HD := Aside0.mk h
  clear h
  go_enter Tryd.func41, Tryd.ntmps41
  go_wp2_with (first
    | (go_at_call 51; refine (deadD_calls (by first | exact HD.out | exact HD.out.below (bl1 _ _) | exact HD.out.below (bl2 _ _ _) | exact HD.out.below (bl3 _ _ _ _))).mono ?_; rintro e w' ⟨rfl, rfl⟩))
  go_ret
  exact ⟨rfl, by first | exact Below.refl _ _ | exact bl1 _ _ | exact bl2 _ _ _ | exact bl3 _ _ _ _⟩
set_option maxRecDepth 100000 in
theorem Settle_dead {w : World} {a : Option Addr} (h : Dead w a) (i : Int) :
    Calls Tryd.prog 50 #[.pointer a, .int .i64 i] w fun e w' => e = .returned (.int .i64 6) ∧ Below w.heap.size w w' := by
  have HD := Aside0.mk h
  clear h
  go_enter Tryd.func50, Tryd.ntmps50
  go_wp2_with (first
    | (go_at_call 51; refine (deadD_calls (by first | exact HD.out | exact HD.out.below (bl1 _ _) | exact HD.out.below (bl2 _ _ _) | exact HD.out.below (bl3 _ _ _ _))).mono ?_; rintro e w' ⟨rfl, rfl⟩))
  go_ret
  exact ⟨rfl, by first | exact Below.refl _ _ | exact bl1 _ _ | exact bl2 _ _ _ | exact bl3 _ _ _ _⟩
set_option maxRecDepth 100000 in
theorem Fold_dead {w : World} {a : Option Addr} (h : Dead w a) (i : Int) :
    Calls Tryd.prog 44 #[.pointer a, .int .i64 i] w fun e w' => e = .returned (.int .i64 6) ∧ Below w.heap.size w w' := by
  have HD := Aside0.mk h
  clear h
  go_enter Tryd.func44, Tryd.ntmps44
  go_wp2_with (first
    | (go_at_call 51; refine (deadD_calls (by first | exact HD.out | exact HD.out.below (bl1 _ _) | exact HD.out.below (bl2 _ _ _) | exact HD.out.below (bl3 _ _ _ _))).mono ?_; rintro e w' ⟨rfl, rfl⟩))
  go_ret
  exact ⟨rfl, by first | exact Below.refl _ _ | exact bl1 _ _ | exact bl2 _ _ _ | exact bl3 _ _ _ _⟩
set_option maxRecDepth 100000 in
theorem Behind_dead {w : World} {a : Option Addr} (h : Dead w a) (i m : Int) :
    Calls Tryd.prog 19 #[.pointer a, .int .i64 i, .int .i64 m] w fun e w' => e = .returned (.tuple #[.slice none 0 0, .bool false]) ∧ Below w.heap.size w w' := by
  have HD := Aside0.mk h
  clear h
  go_enter Tryd.func19, Tryd.ntmps19
  go_wp2_with (first
    | (go_at_call 51; refine (deadD_calls (by first | exact HD.out | exact HD.out.below (bl1 _ _) | exact HD.out.below (bl2 _ _ _) | exact HD.out.below (bl3 _ _ _ _))).mono ?_; rintro e w' ⟨rfl, rfl⟩))
  go_ret2
  exact ⟨rfl, by first | exact Below.refl _ _ | exact bl1 _ _ | exact bl2 _ _ _ | exact bl3 _ _ _ _⟩
set_option maxRecDepth 100000 in
theorem Of_dead {w : World} {a : Option Addr} (h : Dead w a) (ks : List Value) (v : Int) :
    Calls Tryd.prog 43 #[.pointer a, .agg ks.toArray, .int .i64 v] w fun e w' => e = .returned (.tuple #[.string ⟨#[]⟩, .bool false]) ∧ Below w.heap.size w w' := by
  have HD := Aside0.mk h
  clear h
  go_enter Tryd.func43, Tryd.ntmps43
  go_wp2_with (first
    | (go_at_call 51; refine (deadD_calls (by first | exact HD.out | exact HD.out.below (bl1 _ _) | exact HD.out.below (bl2 _ _ _) | exact HD.out.below (bl3 _ _ _ _))).mono ?_; rintro e w' ⟨rfl, rfl⟩))
  go_ret2
  exact ⟨rfl, by first | exact Below.refl _ _ | exact bl1 _ _ | exact bl2 _ _ _ | exact bl3 _ _ _ _⟩
set_option maxRecDepth 100000 in
theorem Clone_dead {w : World} {a : Option Addr} (h : Dead w a)  :
    Calls Tryd.prog 38 #[.pointer a] w fun e w' => e = .returned (.pointer none) ∧ Below w.heap.size w w' := by
  have HD := Aside0.mk h
  clear h
  go_enter Tryd.func38, Tryd.ntmps38
  go_wp2_with (first
    | (go_at_call 51; refine (deadD_calls (by first | exact HD.out | exact HD.out.below (bl1 _ _) | exact HD.out.below (bl2 _ _ _) | exact HD.out.below (bl3 _ _ _ _))).mono ?_; rintro e w' ⟨rfl, rfl⟩))
  go_ret
  exact ⟨rfl, by first | exact Below.refl _ _ | exact bl1 _ _ | exact bl2 _ _ _ | exact bl3 _ _ _ _⟩
set_option maxRecDepth 100000 in
theorem Next_dead {w : World} {a : Option Addr} (h : Dead w a) (ep : Int) (ks : List Value) (v : ByteArray) (c q : Int) :
    Calls Tryd.prog 17 #[.pointer a, .int .i64 ep, .agg ks.toArray, .string v, .agg #[.int .i64 c, .int .i64 q]] w fun e w' => e = .returned (.tuple #[.agg zRow.toArray, .int .i64 6]) ∧ Below w.heap.size w w' := by
  obtain ⟨g, hg⟩ : ∃ g, w.heap.size = g := ⟨_, rfl⟩
  obtain ⟨w1, hw1⟩ : ∃ w_, w.alloc (.cells ks.toArray 28) = w_ := ⟨_, rfl⟩
  have hs1 : w1.heap.size = g + 1 := by rw [← hw1]; simp [hg] <;> omega
  have hb1 : Below w.heap.size w w1 := hw1 ▸ bl1 _ _
  obtain ⟨w2, hw2⟩ : ∃ w_, w1.alloc (.cells #[.int .i64 c, .int .i64 q] 30) = w_ := ⟨_, rfl⟩
  have hs2 : w2.heap.size = g + 2 := by rw [← hw2]; simp [hs1] <;> omega
  have hb2 : Below w.heap.size w w2 := below_then hb1 hb1.size (hw2 ▸ bl1 _ _)
  obtain ⟨w3, hw3⟩ : ∃ w_, w2.alloc (.cells zRow.toArray 32) = w_ := ⟨_, rfl⟩
  have hs3 : w3.heap.size = g + 3 := by rw [← hw3]; simp [hs2] <;> omega
  have hb3 : Below w.heap.size w w3 := below_then hb2 hb2.size (hw3 ▸ bl1 _ _)
  have HZ := Aside0.mk (show w3.heap[g + 2]? = some (.cells zRow.toArray 32 (0, 0)) from hs2 ▸ hw3 ▸ at_alloc w2 _)
  have HD := Aside0.mk (h.below hb3)
  have HB := Aside0.mk hb3
  have HW := Aside0.mk (And.intro hw1 (And.intro hw2 hw3))
  have HBU : Aside0 (Tryd.prog.built 32 [] = some zRow.toArray) := ⟨by kernel_rfl⟩
  have HS : Aside0 (w3.heap.size = g + 3) := ⟨hs3⟩
  have HG := Aside0.mk hg
  clear h hw1 hs1 hb1 hw2 hs2 hb2 hw3 hs3 hb3
  go_enter Tryd.func17, Tryd.ntmps17
  go_upto_region 1 with (fail)
  rw [HW.out.1, HW.out.2.1, HW.out.2.2]
  go_wp2_with (first
    | (go_at_call 51; refine (deadD_calls HD.out).mono ?_; rintro e w' ⟨rfl, rfl⟩)
    | ((with_reducible refine gate_dst (N := 16) rfl ?_); go_must (refine wpList_built (P := Tryd.prog) rfl 32 _ rfl [] (by simp) _ HBU.out ?_))
    | ((with_reducible refine gate_ (.store 32 (.tmp 10) (.tmp 16)) rfl ?_); go_must (refine wpList_row (P := Tryd.prog) rfl 32 (.tmp 10) (.tmp 16) rfl (g + 2) _ 32 HZ.out zRow rfl rfl aggR rfl (by decide) ?_); intro w10 q1 q2 q3))
  refine bodyPost_ret (results_ct rfl _ _ (g + 2) 32 zRow.toArray (0, 0) _ (by rfl) q3 Tryd.underlying32 rfl (by kernel_rfl)) rfl ?_
  have hbb := pw_below_grown HB.out _ HB.out.size q1 (fun k e => by injection e with e; have := HG.out; omega)
  exact ⟨rfl, hbb⟩
set_option maxRecDepth 100000 in
theorem Table_dead {w : World} {a : Option Addr} (h : Dead w a)  :
    Calls Tryd.prog 28 #[.pointer a] w fun e w' => e = .returned (vT 0 0 none 0 0 none 0 0) ∧ Below w.heap.size w w' := by
  obtain ⟨g, hg⟩ : ∃ g, w.heap.size = g := ⟨_, rfl⟩
  obtain ⟨w1, hw1⟩ : ∃ w_, w.alloc (.cells zTb.toArray 25) = w_ := ⟨_, rfl⟩
  have hs1 : w1.heap.size = g + 1 := by rw [← hw1]; simp [hg] <;> omega
  have hb1 : Below w.heap.size w w1 := hw1 ▸ bl1 _ _
  have HZ := Aside0.mk (show w1.heap[g]? = some (.cells zTb.toArray 25 (0, 0)) from hg ▸ hw1 ▸ at_alloc w _)
  have HD := Aside0.mk (h.below hb1)
  have HB := Aside0.mk hb1
  have HW := Aside0.mk (hw1)
  have HBU : Aside0 (Tryd.prog.built 25 [] = some zTb.toArray) := ⟨by kernel_rfl⟩
  have HS : Aside0 (w1.heap.size = g + 1) := ⟨hs1⟩
  have HG := Aside0.mk hg
  clear h hw1 hs1 hb1
  go_enter Tryd.func28, Tryd.ntmps28
  go_upto_region 1 with (fail)
  rw [HW.out]
  go_wp2_with (first
    | (go_at_call 51; refine (deadD_calls HD.out).mono ?_; rintro e w' ⟨rfl, rfl⟩)
    | ((with_reducible refine gate_dst (N := 5) rfl ?_); go_must (refine wpList_built (P := Tryd.prog) rfl 25 _ rfl [] (by simp) _ HBU.out ?_))
    | ((with_reducible refine gate_ (.store 25 (.tmp 2) (.tmp 5)) rfl ?_); go_must (refine wpList_row (P := Tryd.prog) rfl 25 (.tmp 2) (.tmp 5) rfl (g) _ 25 HZ.out zTb rfl rfl aggTb rfl (by decide) ?_); intro w10 q1 q2 q3))
  refine bodyPost_ret (results_c rfl _ _ (g) 25 zTb.toArray (0, 0) _ (by rfl) q3 Tryd.underlying25 rfl (by kernel_rfl)) rfl ?_
  have hbb := pw_below_grown HB.out _ HB.out.size q1 (fun k e => by injection e with e; have := HG.out; omega)
  exact ⟨rfl, hbb⟩
set_option maxRecDepth 100000 in
theorem Whole_dead {w : World} {a : Option Addr} (h : Dead w a)  :
    Calls Tryd.prog 29 #[.pointer a] w fun e w' => e = .returned (vT 0 0 none 0 0 none 0 0) ∧ Below w.heap.size w w' := by
  obtain ⟨g, hg⟩ : ∃ g, w.heap.size = g := ⟨_, rfl⟩
  obtain ⟨w1, hw1⟩ : ∃ w_, w.alloc (.cells zTb.toArray 25) = w_ := ⟨_, rfl⟩
  have hs1 : w1.heap.size = g + 1 := by rw [← hw1]; simp [hg] <;> omega
  have hb1 : Below w.heap.size w w1 := hw1 ▸ bl1 _ _
  have HZ := Aside0.mk (show w1.heap[g]? = some (.cells zTb.toArray 25 (0, 0)) from hg ▸ hw1 ▸ at_alloc w _)
  have HD := Aside0.mk (h.below hb1)
  have HB := Aside0.mk hb1
  have HW := Aside0.mk (hw1)
  have HBU : Aside0 (Tryd.prog.built 25 [] = some zTb.toArray) := ⟨by kernel_rfl⟩
  have HS : Aside0 (w1.heap.size = g + 1) := ⟨hs1⟩
  have HG := Aside0.mk hg
  clear h hw1 hs1 hb1
  go_enter Tryd.func29, Tryd.ntmps29
  go_upto_region 1 with (fail)
  rw [HW.out]
  go_wp2_with (first
    | (go_at_call 51; refine (deadD_calls HD.out).mono ?_; rintro e w' ⟨rfl, rfl⟩)
    | ((with_reducible refine gate_dst (N := 9) rfl ?_); go_must (refine wpList_built (P := Tryd.prog) rfl 25 _ rfl [] (by simp) _ HBU.out ?_))
    | ((with_reducible refine gate_ (.store 25 (.tmp 2) (.tmp 9)) rfl ?_); go_must (refine wpList_row (P := Tryd.prog) rfl 25 (.tmp 2) (.tmp 9) rfl (g) _ 25 HZ.out zTb rfl rfl aggTb rfl (by decide) ?_); intro w10 q1 q2 q3))
  refine bodyPost_ret (results_c rfl _ _ (g) 25 zTb.toArray (0, 0) _ (by rfl) q3 Tryd.underlying25 rfl (by kernel_rfl)) rfl ?_
  have hbb := pw_below_grown HB.out _ HB.out.size q1 (fun k e => by injection e with e; have := HG.out; omega)
  exact ⟨rfl, hbb⟩
set_option maxRecDepth 100000 in
theorem Clean_dead {w : World} {a : Option Addr} (h : Dead w a) (ks : List Value) :
    Calls Tryd.prog 37 #[.pointer a, .agg ks.toArray] w fun e w' => e = .returned (.agg zCel.toArray) ∧ Below w.heap.size w w' := by
  obtain ⟨g, hg⟩ : ∃ g, w.heap.size = g := ⟨_, rfl⟩
  obtain ⟨w1, hw1⟩ : ∃ w_, w.alloc (.cells ks.toArray 28) = w_ := ⟨_, rfl⟩
  have hs1 : w1.heap.size = g + 1 := by rw [← hw1]; simp [hg] <;> omega
  have hb1 : Below w.heap.size w w1 := hw1 ▸ bl1 _ _
  obtain ⟨w2, hw2⟩ : ∃ w_, w1.alloc (.cells zCel.toArray 45) = w_ := ⟨_, rfl⟩
  have hs2 : w2.heap.size = g + 2 := by rw [← hw2]; simp [hs1] <;> omega
  have hb2 : Below w.heap.size w w2 := below_then hb1 hb1.size (hw2 ▸ bl1 _ _)
  have HZ := Aside0.mk (show w2.heap[g + 1]? = some (.cells zCel.toArray 45 (0, 0)) from hs1 ▸ hw2 ▸ at_alloc w1 _)
  have HD := Aside0.mk (h.below hb2)
  have HB := Aside0.mk hb2
  have HW := Aside0.mk (And.intro hw1 hw2)
  have HBU : Aside0 (Tryd.prog.built 45 [] = some zCel.toArray) := ⟨by kernel_rfl⟩
  have HS : Aside0 (w2.heap.size = g + 2) := ⟨hs2⟩
  have HG := Aside0.mk hg
  clear h hw1 hs1 hb1 hw2 hs2 hb2
  go_enter Tryd.func37, Tryd.ntmps37
  go_upto_region 1 with (fail)
  rw [HW.out.1, HW.out.2]
  go_wp2_with (first
    | (go_at_call 51; refine (deadD_calls HD.out).mono ?_; rintro e w' ⟨rfl, rfl⟩)
    | ((with_reducible refine gate_dst (N := 10) rfl ?_); go_must (refine wpList_built (P := Tryd.prog) rfl 45 _ rfl [] (by simp) _ HBU.out ?_))
    | ((with_reducible refine gate_ (.store 45 (.tmp 4) (.tmp 10)) rfl ?_); go_must (refine wpList_row (P := Tryd.prog) rfl 45 (.tmp 4) (.tmp 10) rfl (g + 1) _ 45 HZ.out zCel rfl rfl aggC rfl (by decide) ?_); intro w10 q1 q2 q3))
  refine bodyPost_ret (results_c rfl _ _ (g + 1) 45 zCel.toArray (0, 0) _ (by rfl) q3 Tryd.underlying45 rfl (by kernel_rfl)) rfl ?_
  have hbb := pw_below_grown HB.out _ HB.out.size q1 (fun k e => by injection e with e; have := HG.out; omega)
  exact ⟨rfl, hbb⟩
set_option maxRecDepth 100000 in
theorem Top_dead {w : World} {a : Option Addr} (h : Dead w a) (ks : List Value) :
    Calls Tryd.prog 18 #[.pointer a, .agg ks.toArray] w fun e w' => e = .returned (.agg zCel.toArray) ∧ Below w.heap.size w w' := by
  obtain ⟨g, hg⟩ : ∃ g, w.heap.size = g := ⟨_, rfl⟩
  obtain ⟨w1, hw1⟩ : ∃ w_, w.alloc (.cells ks.toArray 28) = w_ := ⟨_, rfl⟩
  have hs1 : w1.heap.size = g + 1 := by rw [← hw1]; simp [hg] <;> omega
  have hb1 : Below w.heap.size w w1 := hw1 ▸ bl1 _ _
  obtain ⟨w2, hw2⟩ : ∃ w_, w1.alloc (.cells zCel.toArray 45) = w_ := ⟨_, rfl⟩
  have hs2 : w2.heap.size = g + 2 := by rw [← hw2]; simp [hs1] <;> omega
  have hb2 : Below w.heap.size w w2 := below_then hb1 hb1.size (hw2 ▸ bl1 _ _)
  have HZ := Aside0.mk (show w2.heap[g + 1]? = some (.cells zCel.toArray 45 (0, 0)) from hs1 ▸ hw2 ▸ at_alloc w1 _)
  have HD := Aside0.mk (h.below hb2)
  have HB := Aside0.mk hb2
  have HW := Aside0.mk (And.intro hw1 hw2)
  have HBU : Aside0 (Tryd.prog.built 45 [] = some zCel.toArray) := ⟨by kernel_rfl⟩
  have HS : Aside0 (w2.heap.size = g + 2) := ⟨hs2⟩
  have HG := Aside0.mk hg
  clear h hw1 hs1 hb1 hw2 hs2 hb2
  go_enter Tryd.func18, Tryd.ntmps18
  go_upto_region 1 with (fail)
  rw [HW.out.1, HW.out.2]
  go_wp2_with (first
    | (go_at_call 51; refine (deadD_calls HD.out).mono ?_; rintro e w' ⟨rfl, rfl⟩)
    | ((with_reducible refine gate_dst (N := 7) rfl ?_); go_must (refine wpList_built (P := Tryd.prog) rfl 45 _ rfl [] (by simp) _ HBU.out ?_))
    | ((with_reducible refine gate_ (.store 45 (.tmp 4) (.tmp 7)) rfl ?_); go_must (refine wpList_row (P := Tryd.prog) rfl 45 (.tmp 4) (.tmp 7) rfl (g + 1) _ 45 HZ.out zCel rfl rfl aggC rfl (by decide) ?_); intro w10 q1 q2 q3))
  refine bodyPost_ret (results_c rfl _ _ (g + 1) 45 zCel.toArray (0, 0) _ (by rfl) q3 Tryd.underlying45 rfl (by kernel_rfl)) rfl ?_
  have hbb := pw_below_grown HB.out _ HB.out.size q1 (fun k e => by injection e with e; have := HG.out; omega)
  exact ⟨rfl, hbb⟩
end Go.Proofs.YtgmaedngkhidlaaDoor.Sf
-- ShU
namespace Go.Proofs.YtgmaedngkhidlaaDoor.Sf
open Go Go.RowKit Go.ChangeMaps Go.MapKept Go.Proofs.YtgmaedngkhidlaaDoorW.PrintWords Go.Proofs.YtgmaedngkhidlaaDoorW.PrintLast Go.Proofs.YtgmaedngkhidlaaDoorW.PrintMore
open Go.Maps (Keyed)
set_option linter.unusedVariables false
set_option linter.unusedSimpArgs false
set_option maxHeartbeats 8000000 in
set_option maxRecDepth 100000 in
theorem does_dead {a : Option Addr} (k : Dq) (w : World) (h : Dead w a) (hk : QOk k) :
    Calls Tryd.prog 31 #[.pointer a, .agg (encQ k).toArray] w fun e w' => e = .returned (.tuple #[.agg zRow.toArray, .int .i64 6]) ∧ Below w.heap.size w w' := by
  obtain ⟨O, hO⟩ : ∃ O, bits .and .i64 k.op 7 = O := ⟨_, rfl⟩
  obtain ⟨pl, hpl⟩ : ∃ pl, placeP k O 0 0 = pl := ⟨_, rfl⟩
  have HPL : Aside0 (∀ w' : World, Calls Tryd.prog 61 #[.agg (encQ k).toArray, .int .i64 0, .int .i64 0] w' fun e w'' => e = .returned (.int .i64 pl) ∧ Below w'.heap.size w' w'') := ⟨fun w' => by
    have := place_calls k 0 0 w' hk.key.len hk.xkey.len (by decide) (by decide) hk.i
    rw [hO, hpl] at this
    exact this⟩
  obtain ⟨qs, hqs⟩ : ∃ qs, encQ k = qs := ⟨_, rfl⟩
  obtain ⟨g, hg⟩ : ∃ g, w.heap.size = g := ⟨_, rfl⟩
  obtain ⟨w1, hw1⟩ : ∃ w1, w.alloc (.cells qs.toArray 34) = w1 := ⟨_, rfl⟩
  have hs1 : w1.heap.size = g + 1 := by rw [← hw1, ← hg]; simp
  obtain ⟨w2, hw2⟩ : ∃ w2, w1.alloc (.cells zRow.toArray 32) = w2 := ⟨_, rfl⟩
  have hb1 : Below w.heap.size w w1 := hw1 ▸ below_alloc (Below.refl _ _) _
  have hb2 : Below w.heap.size w w2 := below_then hb1 hb1.size (hw2 ▸ below_alloc (Below.refl _ _) _)
  have hQ1 : w1.heap[g]? = some (.cells qs.toArray 34) := hg ▸ hw1 ▸ at_alloc w _
  have hQ2 : w2.heap[g]? = some (.cells qs.toArray 34) := hw2 ▸ under_alloc hQ1 _
  have hZ2 : w2.heap[g + 1]? = some (.cells zRow.toArray 32) := hs1 ▸ hw2 ▸ at_alloc w1 _
  have HQA : Aside0 (∀ w' : World, w'.heap[g]? = some (.cells qs.toArray 34 (0, 0)) → DoAt (fun j => w'.cell? ⟨g, j, none⟩) k) := ⟨fun w' h => doAt (f := fun j => w'.cell? ⟨g, j, none⟩) hk.key.len (hqs ▸ blk_get h)⟩
  have HLQ : Aside0 (qs.length = 29) := ⟨hqs ▸ encQ_len hk.key.len hk.xkey.len⟩
  rw [hqs] at HPL ⊢
  have HW := Aside0.mk (And.intro hw1 hw2)
  have HB2 := Aside0.mk hb2
  have HQ2 := Aside0.mk hQ2
  have HZ2 := Aside0.mk hZ2
  have HD2 := Aside0.mk (h.below hb2)
  have HSZ : Aside0 (w.heap.size = g) := ⟨hg⟩
  have HK := Aside0.mk hk
  have HBZ : Aside0 (Tryd.prog.built 32 [] = some zRow.toArray) := ⟨by kernel_rfl⟩
  clear hpl hqs hw1 hs1 hw2 hb1 hb2 hQ1 hQ2 hZ2 h hk
  go_enter Tryd.func31, Tryd.ntmps31
  go_upto_region 1 with (fail)
  rw [HW.out.1, HW.out.2]
  go_upto_region 2 with (go_at_call 35; refine (Last_dead HD2.out).mono ?_; rintro e w3 ⟨rfl, hb3⟩; have HB3 := Aside0.mk hb3; clear hb3)
  refine start_ (n := 6) (S := fun w' => w'.heap[g]? = some (.cells qs.toArray 34 (0, 0)) ∧ Dead w' a ∧ Below w2.heap.size w2 w') (ds := []) #[false, false, false, false, false, false] (by kernel_rfl) rfl rfl ⟨blk_below (blk_below HQ2.out HB3.out) (below_drew1 (Below.refl _ _)), (HD2.out.below HB3.out).below (below_drew1 (Below.refl _ _)), below_drew1 HB3.out⟩ (fun hHeld => ?_)
  refine pure_ (i := 1) (N := some 17) (v := ?_) (a' := ?_) #[false, true, false, false, false, false] rfl rfl (by kernel_rfl) (fun _ _ _ h => h) (Or.inl ⟨by rfl, ?_⟩) ?_ ?_
  rotate_left
  · intro w'
    go_simp
    with_reducible rfl
  rotate_left
  · simp only [Act.put, List.setIfInBounds_toArray, List.set_cons_zero, List.set_cons_succ, i64_w, i32_w]
    rfl
  refine pure_ (i := 3) (N := some 19) (v := ?_) (a' := ?_) #[false, true, false, true, false, false] rfl rfl (by kernel_rfl) (fun _ _ _ h => h) (Or.inl ⟨by rfl, ?_⟩) ?_ ?_
  rotate_left
  · intro w'
    go_simp
    with_reducible rfl
  rotate_left
  · simp only [Act.put, List.setIfInBounds_toArray, List.set_cons_zero, List.set_cons_succ, i64_w, i32_w]
    rfl
  refine take_ (i := 0) (N := some 16) (v := ?_) (a' := ?_) #[true, true, false, true, false, false] rfl rfl (by kernel_rfl) (fun _ _ _ h => h) (Or.inl ⟨by rfl, ?_⟩) hHeld ?_ ?_
  rotate_left
  · rintro w' ⟨s0, s1, s2⟩
    refine Eq.trans (exec_seg (P := Tryd.prog) 34 (.tmp 3) rfl g 0 rfl qs (by rw [HLQ.out]; exact aggDo) (SegAt.blk (t := 34) (fr := (0, 0)) s0)) ?_
    with_reducible rfl
  rotate_left
  · simp only [Act.put, List.setIfInBounds_toArray, List.set_cons_zero, List.set_cons_succ, i64_w, i32_w]
    rfl
  refine one_ (i := 2) (N := some 18) #[true, true, true, true, false, false] rfl rfl (by kernel_rfl) (by decide) (fun K hK => ?_)
  refine goes_ Tryd.func30 (by kernel_rfl) rfl #[.pointer a] (by rfl) rfl rfl (by first | rfl | (simp; done) | (simp only [List.map_toArray, List.map_cons, List.map_nil]; rfl)) ?_
  with_reducible refine (Commit_dead hHeld.2.1).mono ?_
  rintro e w4 ⟨rfl, hb4⟩
  refine ⟨_, rfl, ?_⟩
  refine hK.out _ _ ⟨blk_below hHeld.1 hb4, hHeld.2.1.below hb4, below_step hHeld.2.2 hb4⟩ (fun hHeld => ?_)
  clear hK K
  refine norm_ (a' := ?_) ?_ ?_
  rotate_left
  · show Act.put _ (some 18) _ = _
    simp only [Act.put, List.setIfInBounds_toArray, List.set_cons_zero, List.set_cons_succ, i64_w, i32_w]
    rfl
  refine one_ (i := 4) (N := some 20) #[true, true, true, true, true, false] rfl rfl (by kernel_rfl) (by decide) (fun K hK => ?_)
  refine goes_ Tryd.func61 (by kernel_rfl) rfl #[.agg qs.toArray, .int .i64 0, .int .i64 0] (by rfl) rfl rfl (by first | rfl | (simp; done) | (simp only [List.map_toArray, List.map_cons, List.map_nil]; rfl)) ?_
  with_reducible refine (HPL.out _).mono ?_
  rintro e w5 ⟨rfl, hb5⟩
  refine ⟨_, rfl, ?_⟩
  refine hK.out _ _ ⟨blk_below hHeld.1 hb5, hHeld.2.1.below hb5, below_step hHeld.2.2 hb5⟩ (fun hHeld => ?_)
  clear hK K
  refine norm_ (a' := ?_) ?_ ?_
  rotate_left
  · show Act.put _ (some 20) _ = _
    simp only [Act.put, List.setIfInBounds_toArray, List.set_cons_zero, List.set_cons_succ, i64_w, i32_w]
    rfl
  refine pure_ (i := 5) (N := some 8) (v := ?_) (a' := ?_) #[true, true, true, true, true, true] rfl rfl (by kernel_rfl) (fun _ _ _ h => h) (Or.inl ⟨by rfl, ?_⟩) ?_ ?_
  rotate_left
  · intro w'
    go_simp
    with_reducible rfl
  rotate_left
  · simp only [Act.put, List.setIfInBounds_toArray, List.set_cons_zero, List.set_cons_succ, i64_w, i32_w]
    rfl
  refine done_ (by kernel_rfl) ?_
  have HQ5 := Aside0.mk hHeld.1
  have HD5 := Aside0.mk hHeld.2.1
  have HB25 := Aside0.mk hHeld.2.2
  have HZ5 := Aside0.mk (blk_below HZ2.out hHeld.2.2)
  have HB5 := Aside0.mk (below_then HB2.out HB2.out.size hHeld.2.2)
  have r0 : w5.cell? ⟨g, 0, none⟩ = some (.int .i64 k.op) := (HQA.out w5 hHeld.1).op
  clear hHeld HPL HB3
  by_cases c3 : O = 3
  · have d3 : (O == 3) = true := by simpa using c3
    have HXS : Aside0 (SegAt w5 g 15 (encR k.x)) := ⟨fun j v hj => (HQA.out w5 HQ5.out).x j v hj⟩
    have HXL : Aside0 ((encR k.x).length = 14) := ⟨encR_len HK.out.xkey.len⟩
    obtain ⟨xs, hxs⟩ : ∃ xs, encR k.x = xs := ⟨_, rfl⟩
    rw [hxs] at HXS HXL
    clear hxs
    clear c3
    go_wp2_with (first
      | ((with_reducible refine gate_dst (N := 26) rfl ?_); go_must (refine wpList_built (P := Tryd.prog) rfl 32 _ rfl [] (by simp) _ HBZ.out ?_))
      | ((with_reducible refine gate_dst (N := 29) rfl ?_); go_must (refine wpList_seg (P := Tryd.prog) rfl 32 (.tmp 28) rfl g 15 rfl xs (by rw [HXL.out]; exact aggR) HXS.out ?_))
      | (go_at_call 21; refine (Add_dead HD5.out xs).mono ?_; rintro e w6 ⟨rfl, hb6⟩; have HB6 := Aside0.mk hb6)
      | ((with_reducible refine gate_ (.store 32 (.tmp 4) (.tmp 26)) rfl ?_); go_must (refine wpList_row (P := Tryd.prog) rfl 32 (.tmp 4) (.tmp 26) rfl (g + 1) _ 32 (blk_below HZ5.out HB6.out) zRow rfl rfl aggR rfl (zRow_eq ▸ encR_one zR) ?_); intro w10 r1 r2 r3))
    refine bodyPost_ret (results_ct rfl _ _ (g + 1) 32 zRow.toArray (0, 0) _ (by rfl) r3 Tryd.underlying32 rfl (by kernel_rfl)) rfl ?_
    have hbb := pw_below_grown (below_then HB5.out HB5.out.size HB6.out) _ (below_then HB5.out HB5.out.size HB6.out).size r1 (fun k e => by injection e with e; have := HSZ.out; omega)
    exact ⟨rfl, hbb⟩
  have d3 : (O == 3) = false := by simpa using c3
  by_cases c4 : O = 4
  · have d4 : (O == 4) = true := by simpa using c4
    clear c3 c4
    go_wp2_with (first
      | ((with_reducible refine gate_dst (N := 33) rfl ?_); go_must (refine wpList_built (P := Tryd.prog) rfl 32 _ rfl [] (by simp) _ HBZ.out ?_))
      | (go_at_call 41; refine (Cut_dead HD5.out pl).mono ?_; rintro e w6 ⟨rfl, hb6⟩; have HB6 := Aside0.mk hb6)
      | ((with_reducible refine gate_ (.store 32 (.tmp 4) (.tmp 33)) rfl ?_); go_must (refine wpList_row (P := Tryd.prog) rfl 32 (.tmp 4) (.tmp 33) rfl (g + 1) _ 32 (blk_below HZ5.out HB6.out) zRow rfl rfl aggR rfl (zRow_eq ▸ encR_one zR) ?_); intro w10 r1 r2 r3))
    refine bodyPost_ret (results_ct rfl _ _ (g + 1) 32 zRow.toArray (0, 0) _ (by rfl) r3 Tryd.underlying32 rfl (by kernel_rfl)) rfl ?_
    have hbb := pw_below_grown (below_then HB5.out HB5.out.size HB6.out) _ (below_then HB5.out HB5.out.size HB6.out).size r1 (fun k e => by injection e with e; have := HSZ.out; omega)
    exact ⟨rfl, hbb⟩
  have d4 : (O == 4) = false := by simpa using c4
  by_cases c5 : O = 5
  · have d5 : (O == 5) = true := by simpa using c5
    clear c3 c4 c5
    go_wp2_with (first
      | ((with_reducible refine gate_dst (N := 40) rfl ?_); go_must (refine wpList_built (P := Tryd.prog) rfl 32 _ rfl [] (by simp) _ HBZ.out ?_))
      | (go_at_call 50; refine (Settle_dead HD5.out pl).mono ?_; rintro e w6 ⟨rfl, hb6⟩; have HB6 := Aside0.mk hb6)
      | ((with_reducible refine gate_ (.store 32 (.tmp 4) (.tmp 40)) rfl ?_); go_must (refine wpList_row (P := Tryd.prog) rfl 32 (.tmp 4) (.tmp 40) rfl (g + 1) _ 32 (blk_below HZ5.out HB6.out) zRow rfl rfl aggR rfl (zRow_eq ▸ encR_one zR) ?_); intro w10 r1 r2 r3))
    refine bodyPost_ret (results_ct rfl _ _ (g + 1) 32 zRow.toArray (0, 0) _ (by rfl) r3 Tryd.underlying32 rfl (by kernel_rfl)) rfl ?_
    have hbb := pw_below_grown (below_then HB5.out HB5.out.size HB6.out) _ (below_then HB5.out HB5.out.size HB6.out).size r1 (fun k e => by injection e with e; have := HSZ.out; omega)
    exact ⟨rfl, hbb⟩
  have d5 : (O == 5) = false := by simpa using c5
  by_cases c6 : O = 6
  · have d6 : (O == 6) = true := by simpa using c6
    clear c3 c4 c5 c6
    go_wp2_with (first
      | ((with_reducible refine gate_dst (N := 40) rfl ?_); go_must (refine wpList_built (P := Tryd.prog) rfl 32 _ rfl [] (by simp) _ HBZ.out ?_))
      | (go_at_call 50; refine (Settle_dead HD5.out pl).mono ?_; rintro e w6 ⟨rfl, hb6⟩; have HB6 := Aside0.mk hb6)
      | ((with_reducible refine gate_ (.store 32 (.tmp 4) (.tmp 40)) rfl ?_); go_must (refine wpList_row (P := Tryd.prog) rfl 32 (.tmp 4) (.tmp 40) rfl (g + 1) _ 32 (blk_below HZ5.out HB6.out) zRow rfl rfl aggR rfl (zRow_eq ▸ encR_one zR) ?_); intro w10 r1 r2 r3))
    refine bodyPost_ret (results_ct rfl _ _ (g + 1) 32 zRow.toArray (0, 0) _ (by rfl) r3 Tryd.underlying32 rfl (by kernel_rfl)) rfl ?_
    have hbb := pw_below_grown (below_then HB5.out HB5.out.size HB6.out) _ (below_then HB5.out HB5.out.size HB6.out).size r1 (fun k e => by injection e with e; have := HSZ.out; omega)
    exact ⟨rfl, hbb⟩
  have d6 : (O == 6) = false := by simpa using c6
  by_cases c7 : O = 7
  · have d7 : (O == 7) = true := by simpa using c7
    clear c3 c4 c5 c6 c7
    go_wp2_with (first
      | ((with_reducible refine gate_dst (N := 46) rfl ?_); go_must (refine wpList_built (P := Tryd.prog) rfl 32 _ rfl [] (by simp) _ HBZ.out ?_))
      | (go_at_call 44; refine (Fold_dead HD5.out pl).mono ?_; rintro e w6 ⟨rfl, hb6⟩; have HB6 := Aside0.mk hb6)
      | ((with_reducible refine gate_ (.store 32 (.tmp 4) (.tmp 46)) rfl ?_); go_must (refine wpList_row (P := Tryd.prog) rfl 32 (.tmp 4) (.tmp 46) rfl (g + 1) _ 32 (blk_below HZ5.out HB6.out) zRow rfl rfl aggR rfl (zRow_eq ▸ encR_one zR) ?_); intro w10 r1 r2 r3))
    refine bodyPost_ret (results_ct rfl _ _ (g + 1) 32 zRow.toArray (0, 0) _ (by rfl) r3 Tryd.underlying32 rfl (by kernel_rfl)) rfl ?_
    have hbb := pw_below_grown (below_then HB5.out HB5.out.size HB6.out) _ (below_then HB5.out HB5.out.size HB6.out).size r1 (fun k e => by injection e with e; have := HSZ.out; omega)
    exact ⟨rfl, hbb⟩
  have d7 : (O == 7) = false := by simpa using c7
  have HDA := Aside0.mk (HQA.out w5 HQ5.out)
  have r1 : w5.cell? ⟨g, 1, none⟩ = some (.int .i64 k.epoch) := HDA.out.epoch
  have r12 : w5.cell? ⟨g, 12, none⟩ = some (.string k.val) := HDA.out.val
  have HKS : Aside0 (SegAt w5 g 4 (encK k.key)) := ⟨fun j v hj => HDA.out.key j v hj⟩
  have HKL : Aside0 ((encK k.key).length = 8) := ⟨encK_len HK.out.key.len⟩
  have HQS : Aside0 (SegAt w5 g 13 [.int .i64 k.client, .int .i64 k.seq]) := ⟨seg_two HDA.out.client HDA.out.seq⟩
  obtain ⟨ks, hks⟩ : ∃ ks, encK k.key = ks := ⟨_, rfl⟩
  rw [hks] at HKS HKL
  clear hks c3 c4 c5 c6 c7
  go_upto_region 14 with (first
    | ((with_reducible refine gate_dst (N := 55) rfl ?_); go_must (refine wpList_seg (P := Tryd.prog) rfl 28 (.tmp 54) rfl g 4 rfl ks (by rw [HKL.out]; exact aggK) HKS.out ?_))
    | ((with_reducible refine gate_dst (N := 59) rfl ?_); go_must (refine wpList_seg (P := Tryd.prog) rfl 30 (.tmp 58) rfl g 13 rfl [.int .i64 k.client, .int .i64 k.seq] aggQ HQS.out ?_))
    | (go_at_call 17; refine (Next_dead HD5.out k.epoch ks k.val k.client k.seq).mono ?_; rintro e w6 ⟨rfl, hb6⟩; have HB6 := Aside0.mk hb6)
    | ((with_reducible refine gate_ (.store 32 (.tmp 9) (.tmp 61)) rfl ?_); go_must (refine wpList_fill (P := Tryd.prog) rfl 32 (.tmp 9) (.tmp 61) rfl zRow _ rfl rfl aggR rfl (zRow_eq ▸ encR_one zR) ?_)))
  obtain ⟨w7, hw7⟩ : ∃ w7, w6.alloc (.cells zRow.toArray 32) = w7 := ⟨_, rfl⟩
  have hb7 : Below w6.heap.size w6 w7 := hw7 ▸ below_alloc (Below.refl _ _) _
  have HA7 := Aside0.mk (show w7.heap[w6.heap.size]? = some (.cells zRow.toArray 32) from hw7 ▸ at_alloc w6 _)
  have HB7 := Aside0.mk (below_then HB6.out HB6.out.size hb7)
  rw [hw7]
  obtain ⟨b, hbb⟩ : ∃ b, w6.heap.size = b := ⟨_, rfl⟩
  rw [hbb] at HA7 ⊢
  clear hw7 hb7 hb6 hbb r0 r1 r12
  go_wp2_with (first
    | ((with_reducible refine gate_dst (N := 65) rfl ?_); go_must (refine wpList_seg (P := Tryd.prog) rfl 32 (.tmp 9) rfl b 0 rfl zRow aggR (SegAt.blk (t := 32) (fr := (0, 0)) HA7.out) ?_))
    | ((with_reducible refine gate_ (.store 32 (.tmp 4) (.tmp 65)) rfl ?_); go_must (refine wpList_row (P := Tryd.prog) rfl 32 (.tmp 4) (.tmp 65) rfl (g + 1) _ 32 (blk_below HZ5.out HB7.out) zRow rfl rfl aggR rfl (zRow_eq ▸ encR_one zR) ?_); intro w10 r1 r2 r3))
  refine bodyPost_ret (results_ct rfl _ _ (g + 1) 32 zRow.toArray (0, 0) _ (by rfl) r3 Tryd.underlying32 rfl (by kernel_rfl)) rfl ?_
  have hbb := pw_below_grown (below_then HB5.out HB5.out.size HB7.out) _ (below_then HB5.out HB5.out.size HB7.out).size r1 (fun k e => by injection e with e; have := HSZ.out; omega)
  exact ⟨rfl, hbb⟩
end Go.Proofs.YtgmaedngkhidlaaDoor.Sf
-- SgW
namespace Go.Proofs.YtgmaedngkhidlaaDoor.Sf
open Go Go.RowKit Go.ChangeMaps Go.MapKept Go.Proofs.YtgmaedngkhidlaaDoorW.PrintWords Go.Proofs.YtgmaedngkhidlaaDoorW.PrintLast Go.Proofs.YtgmaedngkhidlaaDoorW.PrintMore
open Go.Maps (Keyed)
set_option linter.unusedVariables false
set_option linter.unusedSimpArgs false
theorem seq_two' {w : World} {g f : Nat} {u v : Value} (h0 : w.cell? ⟨g, f, none⟩ = some u) (h1 : w.cell? ⟨g, f + 1, none⟩ = some v) : SegAt w g f [u, v] := seg_two h0 h1
end Go.Proofs.YtgmaedngkhidlaaDoor.Sf
-- ShV
namespace Go.Proofs.YtgmaedngkhidlaaDoor.Sf
open Go Go.RowKit Go.ChangeMaps Go.MapKept Go.Proofs.YtgmaedngkhidlaaDoorW.PrintWords Go.Proofs.YtgmaedngkhidlaaDoorW.PrintLast Go.Proofs.YtgmaedngkhidlaaDoorW.PrintMore
open Go.Maps (Keyed)
set_option linter.unusedVariables false
set_option linter.unusedSimpArgs false
set_option maxHeartbeats 16000000 in
set_option maxRecDepth 100000 in
theorem ShelfNobody_calls (k : Dq) (w : World) (hkq : QOk k) (hT : Tabs w) :
    Calls Tryd.prog 10 #[.agg (encQ k).toArray] w fun e w' => e = .returned (.bool true) ∧ Below w.heap.size w w' := by
  obtain ⟨qs, hqs⟩ : ∃ qs, encQ k = qs := ⟨_, rfl⟩
  have hql := encQ_len hkq.key.len hkq.xkey.len
  obtain ⟨g, hg⟩ : ∃ g, w.heap.size = g := ⟨_, rfl⟩
  obtain ⟨w1, hw1⟩ : ∃ w1, w.alloc (.cells qs.toArray 34) = w1 := ⟨_, rfl⟩
  have hb1 : Below w.heap.size w w1 := hw1 ▸ below_alloc (Below.refl _ _) _
  have HR := Aside0.mk (show w1.heap[g]? = some (.cells qs.toArray 34 (0, 0)) from hg ▸ hw1 ▸ at_alloc w _)
  have HB := Aside0.mk hb1
  have HT1 := Aside0.mk (hT.below hb1)
  have HSHT : Aside0 (∀ (w4 w5 : World) (b5 b4 : Nat), w4.heap[b4]? = some (.cells qs.toArray 34 (0, 0)) → w5.heap[b5]? = some (.cells #[.slice (some ⟨b4, 0, none⟩) 1 1] 26 (0, 0)) → Below w4.heap.size w4 w5 → Calls Tryd.prog 13 #[.slice (some ⟨b5, 0, none⟩) 1 1] w5 fun e w' => IsB e ∧ Below w5.heap.size w5 w') := ⟨fun w4 w5 b5 b4 h4 h5 hb5 => by
    refine (short_calls ⟨b5, 0, none⟩ 1 1 w5 (by decide) (fun i hi => ?_)).mono (fun e w' h => ⟨h.1, by obtain ⟨nd, rfl⟩ := h.2; exact pw_below_drewN (Below.refl _ _) nd⟩)
    rw [add_off, Nat.zero_add]
    rcases i with _ | i
    · refine ⟨some ⟨b4, 0, none⟩, [k], 1, (blk_cell h5 0).trans rfl, Kd.C_below (one_do hkq.key.len hkq.xkey.len (hqs ▸ h4)) hb5, fun x hx => ?_⟩
      rw [List.mem_singleton.1 hx]
      exact ⟨hkq.key.len, hkq.xkey.len⟩
    · omega⟩
  have HAW : Aside0 (∀ w' : World, Below w1.heap.size w1 w' → Calls Tryd.prog 15 #[] w' fun e w'' => e = .returned (.bool true) ∧ Below w1.heap.size w1 w'') := ⟨fun w' hb => (awake_calls w' (HT1.out.below hb)).mono (fun e w'' h => ⟨h.1, below_step hb h.2⟩)⟩
  rw [hqs] at hql ⊢
  have HLQ := Aside0.mk hql
  have HKQ := Aside0.mk hkq
  have HQS := Aside0.mk hqs
  have HW := Aside0.mk hw1
  obtain ⟨ki, hki⟩ : ∃ ki, k.i = ki := ⟨_, rfl⟩
  obtain ⟨ks, hks⟩ : ∃ ks, encK k.key = ks := ⟨_, rfl⟩
  obtain ⟨kc, hkc⟩ : ∃ kc, k.client = kc := ⟨_, rfl⟩
  obtain ⟨kq, hkq2⟩ : ∃ kq, k.seq = kq := ⟨_, rfl⟩
  have HKL : Aside0 (ks.length = 8) := ⟨hks ▸ encK_len hkq.key.len⟩
  have HDA : Aside0 (∀ w' : World, Below w1.heap.size w1 w' → w'.cell? ⟨g, 2, none⟩ = some (.int .i64 ki) ∧ SegAt w' g 4 ks ∧ SegAt w' g 13 [.int .i64 kc, .int .i64 kq]) := ⟨fun w' hb => by
    have D := doAt (f := fun j => w'.cell? ⟨g, j, none⟩) HKQ.out.key.len (HQS.out ▸ blk_get (blk_below HR.out hb))
    exact ⟨hki ▸ D.i, fun j v hj => D.key j v (by rw [hks]; exact hj), hkc ▸ hkq2 ▸ seq_two' D.client D.seq⟩⟩
  have HDO : Aside0 (∀ (w' : World) (a : Option Addr), Dead w' a → Calls Tryd.prog 31 #[.pointer a, .agg qs.toArray] w' fun e w'' => e = .returned (.tuple #[.agg zRow.toArray, .int .i64 6]) ∧ Below w'.heap.size w' w'') := ⟨fun w' a h => hqs ▸ does_dead k w' h HKQ.out⟩
  clear hql hw1 hb1 hqs hkq hT hki hks hkc hkq2
  have HBR : Aside0 (Tryd.prog.built 32 [] = some zRow.toArray) := ⟨by kernel_rfl⟩
  have HBC : Aside0 (Tryd.prog.built 45 [] = some zCel.toArray) := ⟨by kernel_rfl⟩
  have HBT : Aside0 (Tryd.prog.built 25 [] = some zTb.toArray) := ⟨by kernel_rfl⟩
  have HBS : Aside0 (Tryd.prog.built 86 [] = some shZ) := ⟨by kernel_rfl⟩
  have HER : Aside0 (Tryd.prog.eqGuardType Tryd.prog.depth 32 = false) := ⟨by kernel_rfl⟩
  have HEC : Aside0 (Tryd.prog.eqGuardType Tryd.prog.depth 45 = false) := ⟨by kernel_rfl⟩
  have HQR : Aside0 (∀ w', (Op.equalIn 10000 32 (.agg zRow.toArray) (.agg zRow.toArray)).run Tryd.prog w' = .ok true w') := ⟨fun w' => eqR_self (x := zR) keyL_zero w'⟩
  have HQC : Aside0 (∀ w', (Op.equalIn 10000 45 (.agg zCel.toArray) (.agg zCel.toArray)).run Tryd.prog w' = .ok true w') := ⟨fun w' => eqC_self (x := zC) keyL_zero w'⟩
  have HST : Aside0 (∀ w' : World, Calls Tryd.prog 27 #[vT 0 0 none 0 0 none 0 0, .agg zTb.toArray] w' fun e w'' => e = .returned (.bool true) ∧ Below w'.heap.size w' w'') := ⟨fun w' => SameT_calls ⟨0, 0, [], []⟩ none none none none 0 0 0 0 w' (Kd.C_nil kC w') (Kd.C_nil kD w') (Kd.C_nil kC w') (Kd.C_nil kD w') (fun x hx => by cases hx)⟩
  go_enter Tryd.func10, Tryd.ntmps10
  go_upto_region 1 with (fail)
  rw [HW.out]
  go_upto_region 3 with (first
    | ((with_reducible refine gate_dst (N := 17) rfl ?_); go_must (refine wpList_seg (P := Tryd.prog) rfl 34 (.tmp 1) rfl g 0 rfl qs (by rw [HLQ.out]; exact aggDo) (SegAt.blk (t := 34) (fr := (0, 0)) HR.out) ?_))
    | ((with_reducible refine gate_dst (N := 18) rfl ?_); obtain ⟨b4, w4, hr4, ha4, hb4⟩ := lit_do' w1 HLQ.out; have HA4 := Aside0.mk ha4; have HB4 := Aside0.mk hb4; go_must (refine Kd.event_run rfl (exec_lit1 (P := Tryd.prog) 26 (.tmp 17) rfl rfl hr4) ?_); clear hr4 ha4 hb4)
    | ((with_reducible refine gate_dst (N := 19) rfl ?_); obtain ⟨b5, w5, hr5, ha5, hb5⟩ := lit_one w4 (some ⟨b4, 0, none⟩) 1 1; have HA5 := Aside0.mk ha5; have HC5 := Aside0.mk hb5; have HB5 := Aside0.mk (below_step HB4.out hb5); go_must (refine Kd.event_run rfl (exec_lit1 (P := Tryd.prog) 93 (.tmp 18) rfl rfl hr5) ?_); clear hr5 ha5 hb5)
    | (go_at_call 13; refine (HSHT.out w4 w5 b5 b4 HA4.out HA5.out HC5.out).mono ?_; rintro e w6 ⟨⟨⟨bc, rfl⟩⟩, hb6⟩; have HB6 := Aside0.mk (below_step HB5.out hb6); clear hb6; cases bc)
    | (go_at_call 15; refine (HAW.out _ HB6.out).mono ?_; rintro e w9 ⟨rfl, hb9⟩))
  · go_ret
    exact ⟨rfl, by first | exact below_then HB.out HB.out.size hb9 | exact hg ▸ below_then HB.out HB.out.size hb9⟩
  clear HSHT HA4 HB4 HA5 HB5 HC5
  obtain ⟨z, hz⟩ : ∃ z, w6.heap.size = z := ⟨_, rfl⟩
  go_upto_region 4 with (first
    | ((with_reducible refine gate_dst (N := 23) rfl ?_); go_must (refine wpList_built (P := Tryd.prog) rfl 86 _ rfl [] (by simp) _ HBS.out ?_)))
  obtain ⟨w7, hw7⟩ : ∃ w7, w6.alloc (.cells shZ 86) = w7 := ⟨_, rfl⟩
  have hs7 : w7.heap.size = z + 1 := by rw [← hw7]; simp [hz]
  have hz7 : w7.heap[z]? = some (.cells shZ 86 (0, 0)) := hz ▸ hw7 ▸ at_alloc w6 _
  obtain ⟨w8, hw8⟩ : ∃ w8, w7.alloc (.cells #[.pointer none, .pointer (some ⟨z, 0, none⟩)] 40) = w8 := ⟨_, rfl⟩
  have hz8 : w8.heap[z]? = some (.cells shZ 86 (0, 0)) := hw8 ▸ under_alloc hz7 _
  have hp8 : w8.heap[z + 1]? = some (.cells #[.pointer none, .pointer (some ⟨z, 0, none⟩)] 40 (0, 0)) := hs7 ▸ hw8 ▸ at_alloc w7 _
  have hb8 : Below w1.heap.size w1 w8 := below_then HB6.out HB6.out.size (below_then (hw7 ▸ bl1 w6 _) (hw7 ▸ bl1 w6 _).size (hw8 ▸ bl1 w7 _))
  rw [hw7, hw8]
  have HW8 : Aside0 (w8.heap[z]? = some (.cells shZ 86 (0, 0)) ∧ w8.heap[z + 1]? = some (.cells #[.pointer none, .pointer (some ⟨z, 0, none⟩)] 40 (0, 0)) ∧ Below w1.heap.size w1 w8) := ⟨hz8, hp8, hb8⟩
  clear hw7 hs7 hz7 hw8 hz8 hp8 hb8 hz
  go_loopw [27] (fun v27 wr => ∃ j : Nat, j ≤ 2 ∧ v27 = .int .i64 (j : Int) ∧ Aside0 (Below w8.heap.size w8 wr)) (fun v27 _ => 2 - (intOf v27).toNat)
  case atStart => exact ⟨0, by omega, rfl, ⟨Below.refl _ _⟩⟩
  case round =>
    obtain ⟨j, hj, rfl, HBr⟩ := hrel
    by_cases e1 : j < 2
    · as_aux_lemma =>
        have e1' : decide ((j : Int) < 2) = true := decide_eq_true (by omega)
        have HWJ : Aside0 (wrap64 ((j : Int) + 1) = (j : Int) + 1) := ⟨by unfold wrap64; omega⟩
        have HP : ∃ a, wr.cell? ⟨z + 1, j, none⟩ = some (.pointer a) ∧ Dead w8 a := by
          have hp := blk_below HW8.out.2.1 HBr.out
          have : j = 0 ∨ j = 1 := by omega
          rcases this with rfl | rfl
          · exact ⟨none, (blk_cell hp 0).trans rfl, .inl rfl⟩
          · exact ⟨some ⟨z, 0, none⟩, (blk_cell hp 1).trans rfl, .inr ⟨z, rfl, HW8.out.1⟩⟩
        obtain ⟨a, hcell, hdead⟩ := HP
        have HD8 := Aside0.mk hdead
        have hi0 : (0 : Int) ≤ (j : Int) := by omega
        have hi1 : (j : Int) < 2 := by omega
        obtain ⟨I, hI⟩ : ∃ I : World → Prop, (fun w' => Below w8.heap.size w8 w') = I := ⟨_, rfl⟩
        have hP : ∀ w', I w' → Below w8.heap.size w8 w' := fun w' h => by rw [← hI] at h; exact h
        have HIr : Aside0 (I wr) := ⟨by rw [← hI]; exact HBr.out⟩
        have HIB : Aside0 (∀ w' w'' : World, I w' → Below w'.heap.size w' w'' → I w'') := ⟨fun w' w'' h hb => by have := hP w' h; rw [← hI]; exact below_step this hb⟩
        have HID : Aside0 (∀ w' : World, I w' → Dead w' a) := ⟨fun w' h => HD8.out.below (hP w' h)⟩
        have HI1 : Aside0 (∀ w' : World, I w' → Below w1.heap.size w1 w') := ⟨fun w' h => below_then HW8.out.2.2 HW8.out.2.2.size (hP w' h)⟩
        have HI8 : Aside0 (∀ w' : World, I w' → Below w8.heap.size w8 w') := ⟨hP⟩
        clear hdead hI hP
        go_upto_region 6 with (fail)
        clear hcell
        go_upto_region 7 with (first
          | ((with_reducible refine gate_dst (N := 33) rfl ?_); go_must (refine wpList_seg (P := Tryd.prog) rfl 34 (.tmp 1) rfl g 0 rfl qs (by rw [HLQ.out]; exact aggDo) (SegAt.blk (t := 34) (fr := (0, 0)) (blk_below HR.out (HI1.out _ HIr.out))) ?_))
          | (go_at_call 31; refine (HDO.out wr a (HID.out _ HIr.out)).mono ?_; rintro e w9 ⟨rfl, hb9⟩; have HI9 := Aside0.mk (HIB.out _ _ HIr.out hb9); clear hb9)
          | ((with_reducible refine gate_ (.store 32 (.tmp 5) (.tmp 35)) rfl ?_); go_must (refine wpList_fill (P := Tryd.prog) rfl 32 (.tmp 5) (.tmp 35) rfl zRow _ rfl rfl aggR rfl (zRow_eq ▸ encR_one zR) ?_)))
        obtain ⟨w10, hw10⟩ : ∃ w10, w9.alloc (.cells zRow.toArray 32) = w10 := ⟨_, rfl⟩
        have HA10 := Aside0.mk (show w10.heap[w9.heap.size]? = some (.cells zRow.toArray 32) from hw10 ▸ at_alloc w9 _)
        have HI10 := Aside0.mk (HIB.out _ _ HI9.out (hw10 ▸ bl1 w9 _))
        rw [hw10]
        obtain ⟨b, hbb⟩ : ∃ b, w9.heap.size = b := ⟨_, rfl⟩
        rw [hbb] at HA10 ⊢
        clear hw10 hbb HIr HI9
        go_upto_region 8 with (go_at_call 35; refine (Last_dead (HID.out _ HI10.out)).mono ?_; rintro e w11 ⟨rfl, hb_⟩; have HI11 := Aside0.mk (HIB.out _ _ HI10.out hb_); have HA11 := Aside0.mk (blk_below HA10.out hb_); clear hb_)
        have r2 := (HDA.out _ (HI1.out _ HI11.out)).1
        go_upto_region 9 with (go_at_call 42; refine (Epoch_dead (HID.out _ HI11.out) ki).mono ?_; rintro e w12 ⟨rfl, hb_⟩; have HI12 := Aside0.mk (HIB.out _ _ HI11.out hb_); have HA12 := Aside0.mk (blk_below HA11.out hb_); clear hb_)
        clear r2
        go_upto_region 10 with (first
          | ((with_reducible refine gate_dst (N := 52) rfl ?_); go_must (refine wpList_seg (P := Tryd.prog) rfl 30 (.tmp 51) rfl g 13 rfl [.int .i64 kc, .int .i64 kq] aggQ (HDA.out _ (HI1.out _ HI12.out)).2.2 ?_))
          | (go_at_call 22; refine (Known_dead (HID.out _ HI12.out) kc kq).mono ?_; rintro e w13 ⟨rfl, hb_⟩; have HI13 := Aside0.mk (HIB.out _ _ HI12.out hb_); have HA13 := Aside0.mk (blk_below HA12.out hb_); clear hb_))
        have r2 := (HDA.out _ (HI1.out _ HI13.out)).1
        go_upto_region 11 with (go_at_call 19; refine (Behind_dead (HID.out _ HI13.out) ki 9).mono ?_; rintro e w14 ⟨rfl, hb_⟩; have HI14 := Aside0.mk (HIB.out _ _ HI13.out hb_); have HA14 := Aside0.mk (blk_below HA13.out hb_); clear hb_)
        clear r2
        have r2 := (HDA.out _ (HI1.out _ HI14.out)).1
        go_upto_region 12 with (first
          | ((with_reducible refine gate_dst (N := 66) rfl ?_); go_must (refine wpList_seg (P := Tryd.prog) rfl 28 (.tmp 65) rfl g 4 rfl ks (by rw [HKL.out]; exact aggK) (HDA.out _ (HI1.out _ HI14.out)).2.1 ?_))
          | (go_at_call 43; refine (Of_dead (HID.out _ HI14.out) ks ki).mono ?_; rintro e w15 ⟨rfl, hb_⟩; have HI15 := Aside0.mk (HIB.out _ _ HI14.out hb_); have HA15 := Aside0.mk (blk_below HA14.out hb_); clear hb_))
        clear r2 HI10 HI11 HI12 HI13 HI14 HA10 HA11 HA12 HA13 HA14
        have hw0 : wrap64 0 = 0 := by unfold wrap64; rfl
        go_upto_region 14 with (first
          | ((with_reducible refine gate_dst (N := 72) rfl ?_); go_must (refine wpList_seg (P := Tryd.prog) rfl 32 (.tmp 5) rfl b 0 rfl zRow aggR (SegAt.blk (t := 32) (fr := (0, 0)) HA15.out) ?_))
          | ((with_reducible refine gate_dst (N := 73) rfl ?_); go_must (refine wpList_built (P := Tryd.prog) rfl 32 _ rfl [] (by simp) _ HBR.out ?_))
          | ((with_reducible refine gate_dst (N := 74) rfl ?_); go_must (refine Kd.event_run rfl (exec_neq 32 32 (.tmp 72) (.tmp 73) rfl zRow.toArray rfl rfl HER.out HQR.out) ?_))
          | (go_at_call 20; refine (Low_dead (HID.out _ HI15.out)).mono ?_; rintro e w16 ⟨rfl, hb_⟩; have HI16 := Aside0.mk (HIB.out _ _ HI15.out hb_); clear hb_)
          | (go_at_call 30; refine (Commit_dead (HID.out _ HI16.out)).mono ?_; rintro e w17 ⟨rfl, hb_⟩; have HI17 := Aside0.mk (HIB.out _ _ HI16.out hb_); clear hb_)
          | (go_at_call 36; refine (Dirty_dead (HID.out _ HI17.out)).mono ?_; rintro e w18 ⟨rfl, hb_⟩; have HI18 := Aside0.mk (HIB.out _ _ HI17.out hb_); clear hb_)
          | (go_at_call 38; refine (Clone_dead (HID.out _ HI18.out)).mono ?_; rintro e w19 ⟨rfl, hb_⟩; have HI19 := Aside0.mk (HIB.out _ _ HI18.out hb_); clear hb_))
        clear HI15 HI16 HI17 HI18 HA15
        go_wp2_with (first
          | ((with_reducible refine gate_dst (N := 123) rfl ?_); go_must (refine wpList_seg (P := Tryd.prog) rfl 28 (.tmp 122) rfl g 4 rfl ks (by rw [HKL.out]; exact aggK) (HDA.out _ (HI1.out _ HI19.out)).2.1 ?_))
          | (go_at_call 37; refine (Clean_dead (HID.out _ HI19.out) ks).mono ?_; rintro e w20 ⟨rfl, hb_⟩; have HI20 := Aside0.mk (HIB.out _ _ HI19.out hb_); clear hb_)
          | ((with_reducible refine gate_dst (N := 125) rfl ?_); go_must (refine wpList_built (P := Tryd.prog) rfl 45 _ rfl [] (by simp) _ HBC.out ?_))
          | ((with_reducible refine gate_dst (N := 126) rfl ?_); go_must (refine Kd.event_run rfl (exec_neq 45 45 (.tmp 124) (.tmp 125) rfl zCel.toArray rfl rfl HEC.out HQC.out) ?_))
          | ((with_reducible refine gate_dst (N := 130) rfl ?_); refine gate_guard (by rfl) ?_; go_must (refine wpList_seg (P := Tryd.prog) rfl 28 (.tmp 129) rfl g 4 rfl ks (by rw [HKL.out]; exact aggK) (HDA.out _ (HI1.out _ HI20.out)).2.1 ?_))
          | (go_at_call 18; refine (Top_dead (HID.out _ HI20.out) ks).mono ?_; rintro e w21 ⟨rfl, hb_⟩; have HI21 := Aside0.mk (HIB.out _ _ HI20.out hb_); clear hb_)
          | ((with_reducible refine gate_dst (N := 132) rfl ?_); refine gate_guard (by rfl) ?_; go_must (refine wpList_built (P := Tryd.prog) rfl 45 _ rfl [] (by simp) _ HBC.out ?_))
          | ((with_reducible refine gate_dst (N := 133) rfl ?_); refine gate_guard (by rfl) ?_; go_must (refine Kd.event_run rfl (exec_neq 45 45 (.tmp 131) (.tmp 132) rfl zCel.toArray rfl rfl HEC.out HQC.out) ?_))
          | (go_at_call 28; refine (Table_dead (HID.out _ HI21.out)).mono ?_; rintro e w22 ⟨rfl, hb_⟩; have HI22 := Aside0.mk (HIB.out _ _ HI21.out hb_); clear hb_)
          | ((with_reducible refine gate_dst (N := 138) rfl ?_); refine gate_guard (by rfl) ?_; go_must (refine wpList_built (P := Tryd.prog) rfl 25 _ rfl [] (by simp) _ HBT.out ?_))
          | (go_at_call 27; refine (HST.out w24).mono ?_; rintro e w25 ⟨rfl, hb_⟩; have HI25 := Aside0.mk (HIB.out _ _ HI24.out hb_); clear hb_)
          | (go_at_call 27; refine (HST.out w22).mono ?_; rintro e w23 ⟨rfl, hb_⟩; have HI23 := Aside0.mk (HIB.out _ _ HI22.out hb_); clear hb_)
          | (go_at_call 29; refine (Whole_dead (HID.out _ HI23.out)).mono ?_; rintro e w24 ⟨rfl, hb_⟩; have HI24 := Aside0.mk (HIB.out _ _ HI23.out hb_); clear hb_)
          | ((with_reducible refine gate_dst (N := 145) rfl ?_); refine gate_guard (by rfl) ?_; go_must (refine wpList_built (P := Tryd.prog) rfl 25 _ rfl [] (by simp) _ HBT.out ?_)))
        exact ⟨⟨j + 1, by omega, by push_cast; rfl, ⟨HI8.out _ HI25.out⟩⟩, by simp [intOf]; omega⟩
    · as_aux_lemma =>
        have e1' : decide ((j : Int) < 2) = false := decide_eq_false (by omega)
        go_wp2_with (go_at_call 15; refine (HAW.out _ (below_then HW8.out.2.2 HW8.out.2.2.size HBr.out)).mono ?_; rintro e w9 ⟨rfl, hb9⟩)
        go_ret
        exact ⟨rfl, by first | exact below_then HB.out HB.out.size hb9 | exact hg ▸ below_then HB.out HB.out.size hb9⟩
end Go.Proofs.YtgmaedngkhidlaaDoor.Sf
