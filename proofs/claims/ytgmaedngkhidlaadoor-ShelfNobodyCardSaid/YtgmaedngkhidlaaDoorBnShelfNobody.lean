/- The statement ShelfNobody is proved, for every input, without a condition; ahead of it the last contracts and plain laws that it rests on. -/
import Derived.Test.YtgmaedngkhidlaaDoorBnShelfNobody5
import Derived.Deep.Slices
import Derived.ChangeArms
import Derived.OpenShut
import Derived.SizedLaws
import Derived.ChangeSlices
import Derived.Test.YtgmaedngkhidlaaDoorCards
import Derived.Test.YtgmaedngkhidlaaDoorTie
import Derived.WalkKit
import Derived.ProofKit
import Derived.Deep.DeepHandedRow
import Derived.Deep.DeepWitnessRowRef
import Derived.Lib.LaidIn
import Derived.Lib.LaidU8T
import Derived.PinnedBridge
import Derived.ChangeOld
import Derived.Below
set_option linter.unusedSimpArgs false
-- OpenC
namespace Go.Proofs.YtgmaedngkhidlaaDoor.Op
open Go Go.RowKit Go.Deep Go.Proofs.YtgmaedngkhidlaaDoorW.PrintWords Go.Proofs.YtgmaedngkhidlaaDoorW.PrintLast Go.Proofs.YtgmaedngkhidlaaDoorW.PrintMore
set_option linter.unusedVariables false
section
variable {H : Type} (enc : TypeId × Value → H) (P : Program) (w : World)
def Opens {α : Type} (d : Kd α) (G : α → Prop) (t : TypeId) : Prop :=
  P.cellsOf t = d.sz ∧ ∀ n cs x, DataW.trod enc P w 0 (fun _ => true) true n t cs = some x → ∃ y, d.K w y cs ∧ G y
def Fields {α : Type} (fs : List Field) (off : Nat) (d : Kd α) (G : α → Prop) : Prop :=
  ∀ n (cs : List Value), cs.length = off + d.sz → (∀ (i : Nat) (f : Field), fs[i]? = some f → ∃ x, DataW.trod enc P w 0 (fun _ => true) true n f.type ((cs.drop f.offset).take (P.cellsOf f.type)) = some x) → ∃ y, d.K w y (cs.drop off) ∧ G y
variable {enc} {P} {w}
theorem opens_int {t : TypeId} {k : IntKind} (ht : P.underlying t = some (.int k)) (hc : P.cellsOf t = 1) : Opens enc P w (Kd.int k) (fun n => (Lit.int k n).wf = true) t := by
  refine ⟨hc, fun n cs x h => ?_⟩
  obtain ⟨m, rfl, _, hw⟩ := DataW.trod_int ht h
  exact ⟨m, rfl, hw⟩
theorem opens_bool {t : TypeId} (ht : P.underlying t = some .bool) (hc : P.cellsOf t = 1) : Opens enc P w Kd.bool (fun _ => True) t := by
  refine ⟨hc, fun n cs x h => ?_⟩
  obtain ⟨m, rfl, _⟩ := DataW.trod_bool ht h
  exact ⟨m, rfl, trivial⟩
theorem opens_string {t : TypeId} (ht : P.underlying t = some .string) (hc : P.cellsOf t = 1) : Opens enc P w Kd.string (fun s => s.size ≤ maxLen) t := by
  refine ⟨hc, fun n cs x h => ?_⟩
  obtain ⟨s, rfl, _, hs⟩ := DataW.trod_string ht h
  exact ⟨s, rfl, hs⟩
theorem pick_lt {α : Type} {p : Nat → α → Prop} : ∀ n : Nat, (∀ i, i < n → ∃ a, p i a) → ∃ xs : List α, xs.length = n ∧ ∀ j a, xs[j]? = some a → p j a := by
  intro n
  induction n with
  | zero => intro _; exact ⟨[], rfl, fun j a h => by simp at h⟩
  | succ n ih =>
    intro h
    obtain ⟨xs, hl, hp⟩ := ih (fun i hi => h i (by omega))
    obtain ⟨a, ha⟩ := h n (by omega)
    refine ⟨xs ++ [a], by simp [hl], fun j b hj => ?_⟩
    rcases Nat.lt_or_ge j n with hlt | hge
    · rw [List.getElem?_append_left (by omega)] at hj
      exact hp j b hj
    · have hj2 : j < (xs ++ [a]).length := (List.getElem?_eq_some_iff.1 hj).1
      rw [List.length_append, List.length_singleton] at hj2
      have : j = n := by omega
      subst this
      rw [List.getElem?_append_right (by omega), hl, Nat.sub_self] at hj
      injection hj with hj
      exact hj ▸ ha
theorem fields_one {α : Type} {d : Kd α} {G : α → Prop} {f : Field} {off : Nat} (ho : f.offset = off) (h : Opens enc P w d G f.type) : Fields enc P w [f] off d G := by
  intro n cs hl hx
  obtain ⟨x, hx⟩ := hx 0 f rfl
  rw [ho, h.1, List.take_of_length_le (by rw [List.length_drop]; omega)] at hx
  exact h.2 n _ x hx
theorem fields_cons {α β : Type} {d : Kd α} {G : α → Prop} {d' : Kd β} {G' : β → Prop} {f : Field} {fs : List Field} {off : Nat} (ho : f.offset = off) (h : Opens enc P w d G f.type) (hr : Fields enc P w fs (off + d.sz) d' G') : Fields enc P w (f :: fs) off (Kd.pair d d') (fun p => G p.1 ∧ G' p.2) := by
  intro n cs hl hx
  obtain ⟨x, hx0⟩ := hx 0 f rfl
  rw [ho, h.1] at hx0
  obtain ⟨y, hk, hg⟩ := h.2 n _ x hx0
  obtain ⟨y', hk', hg'⟩ := hr n cs (by rw [hl]; show off + (d.sz + d'.sz) = _; omega) (fun i f' hf => hx (i + 1) f' (by simpa using hf))
  refine ⟨(y, y'), ⟨_, _, ?_, hk, hk'⟩, hg, hg'⟩
  rw [← List.drop_drop, List.take_append_drop]
theorem opens_struct {α : Type} {d : Kd α} {G : α → Prop} {t : TypeId} {fs : Array Field} (ht : P.underlying t = some (.struct fs)) (hc : P.cellsOf t = d.sz) (hf : Fields enc P w fs.toList 0 d G) : Opens enc P w d G t := by
  refine ⟨hc, fun n cs x h => ?_⟩
  obtain ⟨xs, m, rfl, rfl, hl, hlen, hx⟩ := DataW.trod_struct ht h
  obtain ⟨y, hk, hg⟩ := hf m cs (by rw [hl, hc, Nat.zero_add]) (fun i f hi => by
    have hi' : fs[i]? = some f := by simpa using hi
    have h1 := hx i f hi'
    have hlt : i < xs.length := by rw [hlen]; exact (Array.getElem?_eq_some_iff.1 hi').1
    rw [List.getElem?_eq_getElem hlt] at h1
    exact ⟨_, h1⟩)
  exact ⟨y, hk, hg⟩
end
end Go.Proofs.YtgmaedngkhidlaaDoor.Op
-- OpenA
namespace Go.Proofs.YtgmaedngkhidlaaDoor.Op
open Go Go.RowKit Go.Deep Go.Proofs.YtgmaedngkhidlaaDoorW.PrintWords Go.Proofs.YtgmaedngkhidlaaDoorW.PrintLast Go.Proofs.YtgmaedngkhidlaaDoorW.PrintMore
set_option linter.unusedVariables false
section
variable {H : Type} {enc : TypeId × Value → H} {P : Program} {w : World}
theorem open_agg {α : Type} {d : Kd α} {G : α → Prop} {t : TypeId} (he : Opens enc P w d G t) {v : Value} {D : DataW H} {p : List MemPlace} (h : DataW.Trod enc P w 0 (fun _ => true) true t v D p) (hv : ∃ cs, v = .agg cs ∧ cs.size = P.cellsOf t) :
    ∃ cs y, v = .agg cs ∧ d.K w y cs.toList ∧ G y := by
  obtain ⟨n, h⟩ := h
  obtain ⟨cs, rfl, _⟩ := hv
  obtain ⟨y, hk, hg⟩ := he.2 n _ _ h
  exact ⟨cs, y, rfl, hk, hg⟩
end
end Go.Proofs.YtgmaedngkhidlaaDoor.Op
-- SgX
namespace Go.Proofs.YtgmaedngkhidlaaDoor.Sf
open Go Go.RowKit Go.ChangeMaps Go.MapKept Go.Proofs.YtgmaedngkhidlaaDoorW.PrintWords Go.Proofs.YtgmaedngkhidlaaDoorW.PrintLast Go.Proofs.YtgmaedngkhidlaaDoorW.PrintMore
open Go.Maps (Keyed)
set_option linter.unusedVariables false
set_option linter.unusedSimpArgs false
set_option maxRecDepth 100000
section
variable {H : Type} {enc : TypeId × Value → H} {w : World}
theorem opens_map {α β : Type} {d : Kd α} {G : α → Prop} {d' : Kd β} {G' : β → Prop} {t : TypeId} (h : Op.Opens enc Tryd.prog w d G t) (hs : d.sz = d'.sz) (f : α → β) (hK : ∀ y cs, G y → d.K w y cs → d'.K w (f y) cs) (hG : ∀ y, G y → G' (f y)) : Op.Opens enc Tryd.prog w d' G' t := by
  refine ⟨h.1.trans hs, fun n cs x hx => ?_⟩
  obtain ⟨y, hk, hg⟩ := h.2 n cs x hx
  exact ⟨f y, hK y cs hg hk, hG y hg⟩
abbrev kKey : Kd (List Int) := flat encK 8 encK_one
theorem opensK : Op.Opens enc Tryd.prog w kKey KeyL 28 := by
  refine ⟨by kernel_rfl, fun n cs x h => ?_⟩
  obtain ⟨xs, m, _, _, hl, hlen, hx⟩ := DataW.trod_array Tryd.underlying28 h
  have hc1 : Tryd.prog.cellsOf 5 = 1 := by kernel_rfl
  have hc8 : Tryd.prog.cellsOf 28 = 8 := by kernel_rfl
  rw [hc8] at hl
  obtain ⟨ks, hkl, hk⟩ := Op.pick_lt (p := fun i (v : Int) => cs[i]? = some (.int .u8 v) ∧ (0 ≤ v ∧ v < 256)) 8 (fun i hi => by
    have h1 := hx i hi
    rw [hc1, Nat.mul_one, List.getElem?_eq_getElem (by omega)] at h1
    obtain ⟨v, hv, _, hw⟩ := DataW.trod_int Tryd.underlying5 h1
    refine ⟨v, ?_, ?_⟩
    · have : ((cs.drop i).take 1)[0]? = some (.int .u8 v) := by rw [hv]; rfl
      rw [List.getElem?_take_of_lt (by omega), List.getElem?_drop] at this
      exact this
    · have := hw
      simp [Lit.wf, IntKind.min, IntKind.max, IntKind.signed, IntKind.bits] at this
      omega)
  refine ⟨ks, ⟨?_, hl⟩, ⟨hkl, fun v hv => ?_⟩⟩
  · refine List.ext_getElem? fun i => ?_
    unfold encK
    rw [List.getElem?_map]
    by_cases hi : i < 8
    · have h1 := (hk i ks[i] (List.getElem?_eq_getElem (by omega))).1
      rw [h1, List.getElem?_eq_getElem (by omega)]
      rfl
    · rw [List.getElem?_eq_none (by omega), List.getElem?_eq_none (by omega)]
      rfl
  · obtain ⟨i, hi⟩ := List.getElem?_of_mem hv
    exact (hk i v hi).2
def RcOk (x : Rc) : Prop := KeyL x.key ∧ x.val.size ≤ 9223372036854775807 ∧ (Lit.int .i64 x.client).wf = true
theorem le_max {n : Nat} (h : n ≤ maxLen) : n ≤ 9223372036854775807 := by unfold maxLen at h; omega
abbrev kRq : Kd (Int × Int) := Kd.pair (Kd.int .i64) (Kd.int .i64)
theorem opensRq : Op.Opens enc Tryd.prog w kRq (fun y => (Lit.int .i64 y.1).wf = true ∧ (Lit.int .i64 y.2).wf = true) 30 :=
  Op.opens_struct (enc := enc) (w := w) Tryd.underlying30 (by kernel_rfl) (Op.fields_cons rfl (Op.opens_int Tryd.underlying3 (by kernel_rfl)) (Op.fields_one rfl (Op.opens_int Tryd.underlying3 (by kernel_rfl))))
theorem opensR : Op.Opens enc Tryd.prog w kR RcOk 32 := by
  have i3 : Op.Opens enc Tryd.prog w (Kd.int .i64) (fun n => (Lit.int .i64 n).wf = true) 3 := Op.opens_int Tryd.underlying3 (by kernel_rfl)
  have h := Op.opens_struct (enc := enc) (w := w) Tryd.underlying32 (by kernel_rfl) (Op.fields_cons rfl i3 (Op.fields_cons rfl i3 (Op.fields_cons rfl opensK (Op.fields_cons rfl i3 (Op.fields_cons rfl (Op.opens_string Tryd.underlying9 (by kernel_rfl)) (Op.fields_one rfl opensRq))))))
  refine opens_map h rfl (fun y => ⟨y.1, y.2.1, y.2.2.1, y.2.2.2.1, y.2.2.2.2.1, y.2.2.2.2.2.1, y.2.2.2.2.2.2⟩) ?_ ?_
  · rintro ⟨i, e, k, v, s, c, q⟩ cs hg ⟨c0, c1, rfl, rfl, c2, c3, rfl, rfl, c4, c5, rfl, ⟨rfl, h8⟩, c6, c7, rfl, rfl, c8, c9, rfl, rfl, d0, d1, rfl, rfl, rfl⟩
    refine ⟨?_, ?_⟩
    · unfold encR
      simp [List.append_assoc]
    · simp [h8]
  · rintro ⟨i, e, k, v, s, c, q⟩ ⟨_, _, h3, _, h5, h6, _⟩
    exact ⟨h3, le_max h5, h6⟩
theorem opensQ : Op.Opens enc Tryd.prog w kQ QOk 34 := by
  have i3 : Op.Opens enc Tryd.prog w (Kd.int .i64) (fun n => (Lit.int .i64 n).wf = true) 3 := Op.opens_int Tryd.underlying3 (by kernel_rfl)
  have h := Op.opens_struct (enc := enc) (w := w) Tryd.underlying34 (by kernel_rfl) (Op.fields_cons rfl i3 (Op.fields_cons rfl i3 (Op.fields_cons rfl i3 (Op.fields_cons rfl (Op.opens_bool Tryd.underlying4 (by kernel_rfl)) (Op.fields_cons rfl opensK (Op.fields_cons rfl (Op.opens_string Tryd.underlying9 (by kernel_rfl)) (Op.fields_cons rfl opensRq (Op.fields_one rfl opensR))))))))
  refine opens_map h rfl (fun y => ⟨y.1, y.2.1, y.2.2.1, y.2.2.2.1, y.2.2.2.2.1, y.2.2.2.2.2.1, y.2.2.2.2.2.2.1.1, y.2.2.2.2.2.2.1.2, y.2.2.2.2.2.2.2⟩) ?_ ?_
  · rintro ⟨o, e, i, nr, k, v, ⟨c, q⟩, x⟩ cs hg ⟨c0, c1, rfl, rfl, c2, c3, rfl, rfl, c4, c5, rfl, rfl, c6, c7, rfl, rfl, c8, c9, rfl, ⟨rfl, h8⟩, d0, d1, rfl, rfl, d2, d3, rfl, ⟨d4, d5, rfl, rfl, rfl⟩, rfl, h14⟩
    refine ⟨?_, ?_⟩
    · unfold encQ
      simp [List.append_assoc]
    · simp [h8, h14]
  · rintro ⟨o, e, i, nr, k, v, ⟨c, q⟩, x⟩ ⟨_, _, h3, _, h5, h6, ⟨h7, _⟩, h9⟩
    exact ⟨h5, h9.1, le_max h6, h9.2.1, h7, h9.2.2, h3⟩
end
end Go.Proofs.YtgmaedngkhidlaaDoor.Sf
-- WSized
namespace Go.Proofs.YtgmaedngkhidlaaDoorW.PrintWords
open Go.ChangeShapes Go.WideShapes
end Go.Proofs.YtgmaedngkhidlaaDoorW.PrintWords
-- LawShelfNobody
namespace Go.Proofs.YtgmaedngkhidlaaDoor.shelfNobody
open Go Go.ChangeShapes Go.WideShapes Go.ChangeAt Go.RowKit Go.Lib Go.Proofs.YtgmaedngkhidlaaDoor.Sf
set_option linter.unusedVariables false
theorem own : ownKnob Tryd.prog.godebug = none := by kernel_rfl
theorem laidOut : laidOutB Tryd.prog = true := by kernel_rfl
theorem acc_eq : Rows.laid_unicode_utf8_acceptRanges = Lib.acceptData := by kernel_rfl
theorem first_eq : Rows.laid_unicode_utf8_first = Lib.firstData := Pinned.utf8First_eq
theorem laid_eq : Rows.shelfNobodyRow.laid = [("unicode/utf8.acceptRanges", Lib.acceptData), ("unicode/utf8.first", Lib.firstData)] := by
  show [("unicode/utf8.acceptRanges", Rows.laid_unicode_utf8_acceptRanges), ("unicode/utf8.first", Rows.laid_unicode_utf8_first)] = _
  rw [acc_eq, first_eq]
theorem tabs {W : World} (hL : laidMetH Tryd.prog Rows.shelfNobodyRow.laid W) : Sf.Tabs W := by
  rw [laid_eq] at hL
  exact utf8Tabs_of_readsT (U8Types.of196 lays196) ⟨by kernel_rfl, by kernel_rfl, by kernel_rfl, by kernel_rfl, by kernel_rfl, by kernel_rfl, by kernel_rfl⟩ (Lib.laidMet.reads hL (.tail _ (.head _))) (Lib.laidMet.reads hL (.head _))
noncomputable def laidWorld (os : Os) : World :=
  let w0 := World.holding Tryd.prog os ⟨#[], #[], []⟩
  let put (h : Array Obj) (g : Nat) (cs : Array Value) : Array Obj := h.modify g fun
    | .cells _ t frozen => .cells cs t frozen
    | o => o
  let h1 := put w0.heap 0 (Lib.firstTab.map fun z => Value.int .u8 z).toArray
  let h2 := put h1 1 ((List.range 16).flatMap fun i => [Value.int .u8 (Lib.accLo i), Value.int .u8 (Lib.accHi i)]).toArray
  { w0 with heap := h2 }
theorem laid_met (os : Os) (args : Array Value) : laidMetH Tryd.prog Rows.shelfNobodyRow.laid ((laidWorld os).forCall (fun _ _ => 0) ⟨#[], args, []⟩).memory := by
  rw [laid_eq]
  exact (LaidIn.of_run (l := [("unicode/utf8.acceptRanges", Lib.acceptData), ("unicode/utf8.first", Lib.firstData)]) [1, 0] 8 (by kernel_rfl) (by kernel_rfl) (by kernel_rfl) (by kernel_rfl)).met
noncomputable def wargs : Array Value := #[.agg #[.int .i64 0, .int .i64 0, .int .i64 0, .bool false, .int .u8 0, .int .u8 0, .int .u8 0, .int .u8 0, .int .u8 0, .int .u8 0, .int .u8 0, .int .u8 0, .string ⟨#[]⟩, .int .i64 0, .int .i64 0, .int .i64 0, .int .i64 0, .int .u8 0, .int .u8 0, .int .u8 0, .int .u8 0, .int .u8 0, .int .u8 0, .int .u8 0, .int .u8 0, .int .i64 0, .string ⟨#[]⟩, .int .i64 0, .int .i64 0]]
theorem witness_row (os : Os) {H : Type} (enc : TypeId × Value → H) :
    (OpenSpec.ofChange Rows.shelfNobodySpec).preRow enc Tryd.prog Tryd.f10 Rows.shelfNobodyRow.domain false Rows.shelfNobodyRow.laid ((laidWorld os).forCall (fun _ _ => 0) ⟨#[], wargs, []⟩).memory wargs := by
  have hw : (DataW.whole enc Tryd.prog ((laidWorld os).forCall (fun _ _ => 0) ⟨#[], wargs, []⟩).memory Tryd.f10.params.toList (OpenSpec.ofChange Rows.shelfNobodySpec).vars false wargs.toList 8).isSome = true := by kernel_rfl
  obtain ⟨x, hx⟩ := Option.isSome_iff_exists.1 hw
  exact OpenSpec.preRow_of_cond 8 hx rfl (fun k hk => by cases hk) (by kernel_rfl) (laid_met os _)
set_option maxRecDepth 100000 in
set_option maxHeartbeats 4000000 in
theorem lifted (os : Os) (started : os.Started) (H : Type) (enc : TypeId × Value → H) (F : Stop.Interp) :
    ReturnsInHanded {} Tryd.checked os 10 .any ((OpenSpec.ofChange Rows.shelfNobodySpec).preRow enc Tryd.prog Tryd.f10 Rows.shelfNobodyRow.domain false Rows.shelfNobodyRow.laid) (((OpenSpec.ofChange Rows.shelfNobodySpec).at F).post enc Tryd.prog Tryd.f10 false true false false) := by
  refine returnsInHanded_of_row (C := Tryd.checked) (s := OpenSpec.ofChange Rows.shelfNobodySpec) own started (by kernel_rfl) Tryd.func10
    (witness_row_atRef (enc := enc) (C := Tryd.checked) false (laidWorld os) wargs rfl (by kernel_rfl) (by kernel_rfl) (by kernel_rfl) (witness_row os enc)) ?_
  intro W base args ds gs before hval0 hW _ _ _ hL _ _
  have hval : ∀ (j : Nat) t v, Tryd.f10.params[j]? = some t → args[j]? = some v → Value.okWide Tryd.prog W .any base t v := hval0
  have hW' := hW
  obtain ⟨p, q, hA0, hV, rfl, hfz, hnd⟩ := hW
  have hA : DataW.TrodAll enc Tryd.prog W 0 (fun _ => true) true Tryd.f10.params.toList args.toList ds p := hA0
  rw [Tryd.params10] at hA hval
  obtain ⟨v0, vs0, d0, ds0, p0, q0, hargs, rfl, rfl, h0, r0⟩ := trodAll_cons hA
  obtain ⟨rfl, rfl, rfl⟩ := trodAll_nil r0
  obtain rfl : args = #[v0] := by cases args; simp_all
  obtain ⟨rfl, rfl⟩ := trodVars_none hV
  have k0 := h0
  have lt0 : ∀ x ∈ p0, x.block < W.heap.size := by obtain ⟨m, hm⟩ := k0; exact DataW.trod_lt m _ _ _ hm
  obtain ⟨a0, k0_, rfl, hK0, hG0⟩ := Op.open_agg opensQ h0 (okWide_struct Tryd.underlying34 (hval 0 34 v0 rfl rfl))
  obtain ⟨e0, _⟩ := hK0
  obtain rfl : a0 = (encQ k0_).toArray := by rw [← e0]
  clear hA0 hval0
  refine (ShelfNobody_calls  k0_ W hG0 (tabs hL)).mono ?_
  rintro e W' ⟨rfl, bel⟩
  exact ⟨_, rfl, _, _, _, [], _, [], hW', trodAll_mk1 (shut_bool Tryd.underlying4 _), (trodAll_cons_mk (Below.trod laidOut (by kernel_rfl) (of_decide_eq_true (by kernel_rfl)) k0 bel lt0) trodAll_mk0), rfl, bel.frame _, fun h => by cases h⟩
theorem said : Rows.ShelfNobodySaid :=
  OpenClaim.holds_of_cond 10 Tryd.f10 rfl rfl rfl rfl rfl rfl rfl ⟨rfl, rfl, rfl, rfl, rfl⟩ rfl rfl rfl rfl rfl (by kernel_rfl) Tryd.func10 (by kernel_rfl)
    (of_decide_eq_true (by kernel_rfl)) (by unfold Func.isWrapper; first | (rw [if_pos (by decide +kernel)]; kernel_rfl) | (rw [if_neg (by decide +kernel)]; exact ⟨rfl, rfl⟩))
    (fun os started H enc _ F => by rw [OpenClaim.pre_eq_preRow]; exact lifted os started H enc F)
theorem plain (f : FuncId) (fn : Func) (hf : Tryd.pinned.checked.prog.funcNamed "towline/towlinelaw09.ShelfNobody" = some f) (hfn : Tryd.pinned.checked.prog.funcs[f]? = some fn) :
    false = Tryd.pinned.checked.prog.looks [] ∧ ∀ (j : Nat) t, fn.params[j]? = some t → Tryd.pinned.checked.prog.wantsStandIn t = false := by
  obtain rfl : f = 10 := Option.some.inj ((show Tryd.prog.funcNamed "towline/towlinelaw09.ShelfNobody" = some 10 by kernel_rfl).symm.trans hf) |>.symm
  obtain rfl : fn = Tryd.f10 := (Option.some.inj (Tryd.func10.symm.trans hfn)).symm
  refine ⟨by kernel_rfl, fun j t ht => ?_⟩
  rw [Tryd.params10] at ht
  have hm := Array.mem_of_getElem? ht
  simp only [List.mem_toArray, List.mem_cons, List.mem_nil_iff, or_false] at hm
  rcases hm with rfl
  · exact (show Tryd.prog.wantsStandIn 34 = false by kernel_rfl)
theorem card : Rows.ShelfNobodyCardSaid :=
  Claim7.holds_tied_plain_at .later [] _ _ _ _ said (fun _ h => by cases h) (by kernel_rfl) (fun _ h => by cases h) shelfNobody_row_tie rfl ⟨rfl, rfl⟩ (by kernel_rfl) rfl plain (by kernel_rfl)
#print axioms card
end Go.Proofs.YtgmaedngkhidlaaDoor.shelfNobody
namespace Go.Proofs.YtgmaedngkhidlaaDoor
theorem shelfNobody_holds : Rows.ShelfNobodyCardSaid := shelfNobody.card
end Go.Proofs.YtgmaedngkhidlaaDoor
